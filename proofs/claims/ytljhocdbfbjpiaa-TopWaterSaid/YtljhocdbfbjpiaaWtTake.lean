/-
  The ponds after a volume was drawn.
-/
import Derived.Test.YtljhocdbfbjpiaaWtFill
namespace Go.Proofs.Ytljhocdbfbjpiaa
open Go.RowKit

def tkF (f : Nat → Nat → Int) (P : Nat → Int) (k : Nat) (i j : Nat) : Int := if i < k ∧ j = 1 then f i 1 - P i else f i j
def TakePost (n : Nat) (L : Int) (f : Nat → Nat → Int) (w : World) (e : Ending) (w' : World) : Prop :=
  (∃ A c P, e = .returned (.tuple #[.slice A n c, .int .i64 0]) ∧ RI2 w.heap.size w' A 5 n (tkF f P n) ∧ (A = none → n = 0 ∧ c = 0) ∧ (∀ i, i < n → 0 ≤ P i ∧ P i ≤ 20000000) ∧ (n = 1 → P 0 = L)) ∧ Below w.heap.size w w'
def spW (f : Nat → Nat → Int) (i : Nat) : Nat := (spF f i).toNat
theorem spW_cast {f : Nat → Nat → Int} {n i : Nat} (h : PondOK f n) (hi : i < n) : ((spW f i : Nat) : Int) = spF f i := by
  have := h i hi
  unfold spW spF
  omega
theorem spW_sum {f : Nat → Nat → Int} {n : Nat} (h : PondOK f n) : ((sumW (spW f) n : Nat) : Int) = sumN (spF f) n := by
  rw [← sumW_cast]
  exact sumN_congr fun i hi => spW_cast h hi
set_option maxRecDepth 20000 in
set_option maxHeartbeats 8000000 in
theorem take_any (n c : Nat) (L : Int) (f : Nat → Nat → Int) (A : Option Addr) (w : World) (hR : RI w A 5 n f) (hA : A = none → n = 0 ∧ c = 0) (hn : n ≤ 8) (hP : PondOK f n) (h0 : 0 ≤ L) (h1 : L ≤ 10000000) (hL : L ≤ sumN (spF f) n) :
    Calls Try.prog 38 #[.slice A n c, .int .i64 L] w (TakePost n L f w) := by
  have HR := Lib.hid hR
  have HP := Lib.hid hP
  have HAN := Lib.hid hA
  have HN := Lib.hid hn
  have HSP := Lib.hid (spare_any n c f A w hR hn hP)
  have hni : (n : Int) ≤ 8 := by omega
  have hmk : ∀ W', (Instr.makeSlice 28 (.int .i64 (n : Int)) (.int .i64 (n : Int))).run Try.prog W' = .ok (.slice (some ⟨W'.heap.size, 0, none⟩) n n) (W'.alloc (.cells (madeCells #[.int .i64 0] n) 3)) := fun W' => make_ints n (by omega) W'
  obtain ⟨S, hS⟩ : ∃ S, S = sumN (spF f) n := ⟨_, rfl⟩
  rw [← hS] at hL HSP
  have HS := Lib.hid hS
  clear hR hP hA hS
  go_enter Try.func38, Try.ntmps38
  go_wp2_with fail
  refine HSP.out.mono ?_
  rintro e w1 ⟨rfl, hb1⟩
  have HC := Lib.hid (clone_pond A n c (flatL 5 f n) w1 (by omega) (flatL_len _ _ _) (flatL_one _ _ _) ((HR.out.below hb1).src (by omega) HAN.out))
  have HB1 := Lib.hid hb1
  clear hb1 HSP
  go_wp2_with fail
  refine HC.out.mono ?_
  rintro e w2 ⟨⟨A', c', rfl, hA', ho⟩, hb2⟩
  have HA := Lib.hid hA'
  have HO := Lib.hid ho
  have HB2 := Lib.hid (thru HB1.out hb2 HB1.out.size)
  have HB12 := Lib.hid HB1.out.size
  clear hA' ho hb2 HC HB1
  by_cases hz : L = 0
  · subst hz
    clear hmk
    go_wp2
    go_ret2
    exact ⟨⟨A', c', fun _ => 0, rfl, ((RI2.of_owns HO.out).mono HB12.out).congr fun i _ j _ => by by_cases e : i < n ∧ j = 1 <;> simp [tkF, e], HA.out, fun i _ => ⟨by dsimp only; omega, by dsimp only; omega⟩, fun _ => rfl⟩, HB2.out⟩
  · have hzb : (L == 0) = false := beq_eq_false_iff_ne.2 hz
    obtain ⟨a, rfl⟩ : ∃ a : Nat, L = (a : Int) := ⟨L.toNat, by omega⟩
    have hsum : 0 < sumW (spW f) n := by have := spW_sum HP.out; rw [← HS.out] at this; omega
    have hn0 : 0 < n := by
      rcases Nat.eq_zero_or_pos n with e | e
      · subst e; simp [sumW] at hsum
      · exact e
    obtain ⟨g, rfl⟩ := owns_some HO.out hn0
    have HOG : Hid (OwnI w.heap.size w2 g 5 n (tkF f (fun _ => 0) 0)) := Lib.hid (by
      have h := (OwnI.of_owns HO.out).congr (G := tkF f (fun _ => 0) 0) fun i _ j _ => by simp [tkF]
      exact ⟨by have := h.lo; have := HB12.out; omega, h.z, h.c, h.f⟩)
    have HSUM := Lib.hid hsum
    have HN0 := Lib.hid hn0
    clear HO hsum hn0 hz
    go_wp2
    go_loopw [30] (fun i wr => ∃ k : Nat, k ≤ n ∧ i = .int .i64 k ∧ Hid (∀ i, i < n → wr.cell? ⟨w2.heap.size, i, none⟩ = some (.int .i64 (if i < k then ((spW f i : Nat) : Int) else 0))) ∧ Hid (∀ i, wr.frozen? ⟨w2.heap.size, i, none⟩ = false) ∧ Hid (w2.heap.size < wr.heap.size) ∧ Hid (Below w2.heap.size w2 wr)) (fun i _ => n - (intOf i).toNat)
    case atStart => exact ⟨0, Nat.zero_le _, rfl, Lib.hid fun i hi => by rw [made_at _ _ _ _ hi]; simp, Lib.hid fun i => made_fr _ _ _ _ i, Lib.hid (by simp), Lib.hid (Joins.below_alloc1 _ _)⟩
    case round =>
      clear hmk
      obtain ⟨k, hk, rfl, HCS, HFS, HZS, HB⟩ := hrel
      by_cases hlt : k < n
      · have hlti : (k : Int) < (n : Int) := by omega
        obtain ⟨b, off, rfl, hbz, hc⟩ := ((HR.out.below HB2.out).below HB.out).at_ hlt
        have c0 := hc 0 (by omega)
        have c1 := hc 1 (by omega)
        have c2 := hc 2 (by omega)
        have c3 := hc 3 (by omega)
        have c4 := hc 4 (by omega)
        rw [Nat.add_zero] at c0
        obtain ⟨q1, q2, q3, q4, q5, q6⟩ := HP.out k hlt
        have cs := HCS.out k hlt
        have fs := HFS.out k
        have zs := HZS.out
        have hsw := spW_cast HP.out hlt
        unfold spF at hsw
        obtain ⟨x, hx⟩ : ∃ x, x = f k 1 := ⟨_, rfl⟩
        obtain ⟨y, hy⟩ : ∃ x, x = f k 2 := ⟨_, rfl⟩
        rw [← hx, ← hy] at hsw
        rw [← hx] at c1 q2 q3
        rw [← hy] at c2 q1 q2
        have hx0 : 0 ≤ x := by omega
        have hx1 : x ≤ 1000000000 := by omega
        have HSW := Lib.hid hsw
        have HLT := Lib.hid hlt
        clear hc hlt hsw hx hy q5 q6
        go_wp2
        go_roundw
        case rel =>
          refine ⟨k + 1, HLT.out, by go_num, Lib.hid fun i hi => ?_, Lib.hid fun i => ?_, Lib.hid (by simp; omega), Lib.hid ?_⟩
          · have hcell := row_set (P := fun i => if i < k then ((spW f i : Nat) : Int) else 0) HCS.out k (x - y) i hi
            have e : up (fun i => if i < k then ((spW f i : Nat) : Int) else 0) k (x - y) i = (if i < k + 1 then ((spW f i : Nat) : Int) else 0) := by
              unfold up
              by_cases e : i = k
              · subst e; simp [HSW.out]
              · by_cases e2 : i < k
                · simp [e, e2, Nat.lt_succ_of_lt e2]
                · have e3 : ¬ i < k + 1 := by omega
                  simp [e, e2, e3]
            rw [e] at hcell
            rw [(Joins.below_alloc1 (wr.setCell ⟨w2.heap.size, k, none⟩ (.int .i64 (x - y))) _).cell (p := ⟨w2.heap.size, i, none⟩) (by simpa using HZS.out)]
            exact hcell
          · rw [(Joins.below_alloc1 (wr.setCell ⟨w2.heap.size, k, none⟩ (.int .i64 (x - y))) _).frozen (p := ⟨w2.heap.size, i, none⟩) (by simpa using HZS.out)]
            exact (World.frozen?_setCell _ _ _ _).trans (HFS.out i)
          · exact (HB.out.setCell (p := ⟨w2.heap.size, k, none⟩) (Nat.le_refl _) _).alloc (by simpa using HB.out.size) _
        case measure => have := HLT.out; simp [intOf]; omega
      · have hke : k = n := by omega
        have hrd : Rd wr (some ⟨w2.heap.size, 0, none⟩) (wl (spW f) n) := fun _ => ⟨w2.heap.size, 0, rfl, HZS.out, fun i hi => by
          rw [wl_len] at hi
          rw [Nat.zero_add, HCS.out i hi, if_pos (by omega)]
          exact congrArg (fun z => some (Value.int .i64 z)) (wl_at hi).symm⟩
        have HSPL := Lib.hid (split_any a n n (spW f) (some ⟨w2.heap.size, 0, none⟩) wr HN.out (by omega) (fun i hi => by have := spW_cast HP.out hi; have := HP.out i hi; unfold spF at *; omega) HSUM.out hrd)
        have HOG2 := Lib.hid (HOG.out.below HB.out)
        have HBW := Lib.hid (thru HB2.out HB.out HB2.out.size)
        have HGZ : Hid (g < wr.heap.size) := Lib.hid HOG2.out.z
        clear hrd HCS HFS HZS HB hke hk HOG
        go_wp2_with fail
        refine HSPL.out.mono ?_
        rintro e w5 ⟨⟨P, rfl, hp, hp1⟩, hz5, hb5⟩
        have HPP := Lib.hid hp
        have HP1 := Lib.hid hp1
        have HB5 := Lib.hid (thru HBW.out hb5 HBW.out.size)
        have HOG5 : Hid (OwnI w.heap.size w5 g 5 n (tkF f P 0)) := Lib.hid ((HOG2.out.below hb5).congr fun i _ j _ => by simp [tkF])
        clear hp hp1 hb5 hz5 hlt HSPL HOG2 HBW HB2 HA
        go_wp2
        go_loopw [55] (fun i wx => ∃ k : Nat, k ≤ n ∧ i = .int .i64 k ∧ Hid (OwnI w.heap.size wx g 5 n (tkF f P k)) ∧ Hid (∀ i, i < n → wx.cell? ⟨wr.heap.size, i, none⟩ = some (.int .i64 (P i))) ∧ Hid (Below w.heap.size w wx)) (fun i _ => n - (intOf i).toNat)
        case atStart => exact ⟨0, Nat.zero_le _, rfl, HOG5, Lib.hid fun i hi => (HPP.out i hi).1, HB5⟩
        case round =>
          clear HOG5 HB5
          rename World => wx
          obtain ⟨k, hk, rfl, HOG, HPC, HB⟩ := hrel
          by_cases hlt : k < n
          · have hlti : (k : Int) < (n : Int) := by omega
            have cp := HPC.out k hlt
            have gz := HOG.out.z
            have cg := HOG.out.c k hlt 1 (by omega)
            have fg := HOG.out.f (k * 5 + 1)
            have ev : tkF f P k k 1 = f k 1 := by simp [tkF]
            rw [ev] at cg
            obtain ⟨q1, q2, q3, q4, q5, q6⟩ := HP.out k hlt
            obtain ⟨_, p1, p2⟩ := HPP.out k hlt
            obtain ⟨x, hx⟩ : ∃ x, x = f k 1 := ⟨_, rfl⟩
            obtain ⟨y, hy⟩ : ∃ x, x = P k := ⟨_, rfl⟩
            rw [← hx] at cg q2 q3
            rw [← hy] at cp p1 p2
            have hx0 : 0 ≤ x := by omega
            have hx1 : x ≤ 1000000000 := by omega
            have HXY := Lib.hid (And.intro hx hy)
            have HLT := Lib.hid hlt
            clear hlt hx hy q1 q5 q6 ev
            go_wp2
            have HO' : Hid (OwnI w.heap.size (wx.setCell ⟨g, k * 5 + 1, none⟩ (.int .i64 (x - y))) g 5 n (tkF f P (k + 1))) := Lib.hid ((HOG.out.set (i := k) (j := 1) (by omega) _).congr fun i hi j hj => by
              unfold up2 tkF
              rw [HXY.out.1, HXY.out.2]
              by_cases e : i = k
              · subst e
                by_cases e1 : j = 1
                · subst e1; simp
                · simp [e1]
              · by_cases e1 : j = 1
                · subst e1
                  by_cases e2 : i < k
                  · simp [e, e2, Nat.lt_succ_of_lt e2]
                  · have e3 : ¬ i < k + 1 := by omega
                    simp [e, e2, e3]
                · simp [e1])
            go_roundw
            case rel => exact ⟨k + 1, HLT.out, by go_num, HO', Lib.hid (row_far HPC.out (by have := HGZ.out; omega) _ _), Lib.hid (HB.out.setCell (p := ⟨g, k * 5 + 1, none⟩) HOG.out.lo _)⟩
            case measure => have := HLT.out; simp [intOf]; omega
          · have hke : k = n := by omega
            have HF : Hid (RI2 w.heap.size wx (some ⟨g, 0, none⟩) 5 n (tkF f P n)) := Lib.hid (by rw [hke] at HOG; exact HOG.out.ri2)
            clear hke
            go_wp2
            go_ret2
            exact ⟨⟨some ⟨g, 0, none⟩, c', P, rfl, HF.out, fun h => by simp at h, fun i hi => (HPP.out i hi).2, HP1.out⟩, HB.out⟩
end Go.Proofs.Ytljhocdbfbjpiaa
