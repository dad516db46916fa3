/-
  The ponds after some seconds of inflow.
-/
import Derived.Test.YtljhocdbfbjpiaaWtPond
namespace Go.Proofs.Ytljhocdbfbjpiaa
open Go.RowKit

def fillN (f : Nat → Nat → Int) (s : Int) (i : Nat) : Int := if f i 3 - f i 1 < f i 4 * s / 3600 then f i 3 - f i 1 else f i 4 * s / 3600
def flP (f : Nat → Nat → Int) (s : Int) (k : Nat) (i j : Nat) : Int := if i < k ∧ j = 1 then f i 1 + fillN f s i else f i j
def FillOK (f : Nat → Nat → Int) (n : Nat) : Prop := ∀ i, i < n → -100000000 ≤ f i 1 ∧ f i 1 ≤ 1000000000 ∧ 0 ≤ f i 3 ∧ f i 3 ≤ 1000000000 ∧ 0 ≤ f i 4 ∧ f i 4 ≤ 10000000
theorem fillN_bd {f : Nat → Nat → Int} {s : Int} {n i : Nat} (h : FillOK f n) (hi : i < n) (h0 : 0 ≤ s) (h1 : s ≤ 86400) : (0 ≤ f i 4 * s ∧ f i 4 * s ≤ 864000000000) ∧ -1000000000 ≤ fillN f s i ∧ fillN f s i ≤ 240000000 := by
  obtain ⟨q1, q2, q3, q4, q5, q6⟩ := h i hi
  have e1 : 0 ≤ f i 4 * s := Int.mul_nonneg q5 h0
  have e2 : f i 4 * s ≤ 10000000 * 86400 := Int.mul_le_mul q6 h1 h0 (by omega)
  unfold fillN
  refine ⟨by omega, ?_⟩
  split <;> omega
def FillPost (n : Nat) (f : Nat → Nat → Int) (s : Int) (w : World) (e : Ending) (w' : World) : Prop :=
  (∃ A c, e = .returned (.tuple #[.slice A n c, .int .i64 (sumN (fillN f s) n), .int .i64 0]) ∧ RI2 w.heap.size w' A 5 n (flP f s n) ∧ (A = none → n = 0 ∧ c = 0)) ∧ Below w.heap.size w w'
set_option maxRecDepth 20000 in
set_option maxHeartbeats 4000000 in
theorem fill_any (n c : Nat) (f : Nat → Nat → Int) (s : Int) (A : Option Addr) (w : World) (hR : RI w A 5 n f) (hA : A = none → n = 0 ∧ c = 0) (hn : n ≤ 8) (hP : FillOK f n) (h0 : 0 ≤ s) (h1 : s ≤ 86400) :
    Calls Try.prog 39 #[.slice A n c, .int .i64 s] w (FillPost n f s w) := by
  have HC := Lib.hid (clone_pond A n c (flatL 5 f n) w (by omega) (flatL_len _ _ _) (flatL_one _ _ _) (hR.src (by omega) hA))
  have HR := Lib.hid hR
  have HP := Lib.hid hP
  have HSB := Lib.hid (And.intro h0 h1)
  have hni : (n : Int) ≤ 8 := by omega
  clear hR hP hA
  go_enter Try.func39, Try.ntmps39
  go_wp2_with fail
  refine HC.out.mono ?_
  rintro e w1 ⟨⟨A', c', rfl, hA', ho⟩, hb1⟩
  have HA := Lib.hid hA'
  have HOW : Hid (0 < n → ∃ g, A' = some ⟨g, 0, none⟩ ∧ OwnI w.heap.size w1 g 5 n (flP f s 0)) := Lib.hid fun hp => by
    obtain ⟨g, rfl⟩ := owns_some ho hp
    exact ⟨g, rfl, (OwnI.of_owns ho).congr fun i _ j _ => by simp [flP]⟩
  have HB1 := Lib.hid hb1
  clear ho hb1 hA' HC
  go_wp2
  go_loopw [8, 22] (fun t i wr => ∃ k : Nat, k ≤ n ∧ i = .int .i64 k ∧ t = .int .i64 (sumN (fillN f s) k) ∧ Hid (0 < n → ∃ g, A' = some ⟨g, 0, none⟩ ∧ OwnI w.heap.size wr g 5 n (flP f s k)) ∧ Hid (Below w.heap.size w wr)) (fun _ i _ => n - (intOf i).toNat)
  case atStart => exact ⟨0, Nat.zero_le _, rfl, rfl, HOW, HB1⟩
  case round =>
    clear HOW HB1
    obtain ⟨k, hk, rfl, rfl, HOW, HB⟩ := hrel
    by_cases hlt : k < n
    · have hlti : (k : Int) < (n : Int) := by omega
      obtain ⟨b, off, rfl, hbz, hc⟩ := (HR.out.below HB.out).at_ hlt
      obtain ⟨g, rfl, hog⟩ := HOW.out (by omega)
      have c0 := hc 0 (by omega)
      have c1 := hc 1 (by omega)
      have c2 := hc 2 (by omega)
      have c3 := hc 3 (by omega)
      have c4 := hc 4 (by omega)
      rw [Nat.add_zero] at c0
      have gz := hog.z
      have cg := hog.c k hlt 1 (by omega)
      have fg := hog.f (k * 5 + 1)
      have ev : flP f s k k 1 = f k 1 := by simp [flP]
      rw [ev] at cg
      obtain ⟨q1, q2, q3, q4, q5, q6⟩ := HP.out k hlt
      obtain ⟨⟨p1, p2⟩, p3, p4⟩ := fillN_bd HP.out hlt HSB.out.1 HSB.out.2
      have hbd := sumN_bd (f := fillN f s) (n := k) (lo := -1000000000) (hi := 240000000) fun i hi => (fillN_bd HP.out (by omega) HSB.out.1 HSB.out.2).2
      obtain ⟨S, hS⟩ : ∃ S, S = sumN (fillN f s) k := ⟨_, rfl⟩
      obtain ⟨v, hv⟩ : ∃ x, x = f k 1 := ⟨_, rfl⟩
      obtain ⟨m, hm⟩ : ∃ x, x = f k 3 := ⟨_, rfl⟩
      obtain ⟨I, hI⟩ : ∃ x, x = f k 4 := ⟨_, rfl⟩
      have hst : sumN (fillN f s) (k + 1) = S + (if m - v < I * s / 3600 then m - v else I * s / 3600) := by rw [hS, hv, hm, hI]; rfl
      have hfn : fillN f s k = (if m - v < I * s / 3600 then m - v else I * s / 3600) := by rw [hv, hm, hI]; rfl
      rw [hfn] at p3 p4
      rw [← hS] at hbd ⊢
      rw [← hv] at c1 cg q1 q2
      rw [← hm] at c3 q3 q4
      rw [← hI] at c4 p1 p2
      have hd1 : 0 ≤ I * s / 3600 := by omega
      have hd2 : I * s / 3600 ≤ 240000000 := by omega
      have hS1 : -8000000000 ≤ S := by omega
      have hS2 : S ≤ 8000000000 := by omega
      have HST := Lib.hid hst
      have HFN := Lib.hid hfn
      have HV := Lib.hid hv
      have HLT := Lib.hid hlt
      have HOG := Lib.hid hog
      clear hbd hst hfn hS hv hm hI hlt hog hc HOW ev q5 q6
      go_wp2
      have HO' : Hid (OwnI w.heap.size ((wr.setCell ⟨g, k * 5 + 1, none⟩ (.int .i64 (v + (if m - v < I * s / 3600 then m - v else I * s / 3600)))).alloc (.cells #[.int .i64 (f k 0), .int .i64 v, .int .i64 (f k 2), .int .i64 m, .int .i64 I] 92)) g 5 n (flP f s (k + 1))) := Lib.hid (by
        refine ((HOG.out.set (i := k) (j := 1) (by omega) _).below (Joins.below_alloc1 _ _)).congr fun i hi j hj => ?_
        unfold up2 flP
        rw [← HFN.out, HV.out]
        by_cases e : i = k
        · subst e
          by_cases e1 : j = 1
          · subst e1; simp
          · simp [e1]
        · by_cases e1 : j = 1
          · subst e1
            by_cases e2 : i < k
            · simp [e, e2, Nat.lt_succ_of_lt e2]
            · have e3 : ¬ i < k + 1 := by omega
              simp [e, e2, e3]
          · simp [e1])
      have HB' : Hid (Below w.heap.size w ((wr.setCell ⟨g, k * 5 + 1, none⟩ (.int .i64 (v + (if m - v < I * s / 3600 then m - v else I * s / 3600)))).alloc (.cells #[.int .i64 (f k 0), .int .i64 v, .int .i64 (f k 2), .int .i64 m, .int .i64 I] 92))) := Lib.hid ((HB.out.setCell (p := ⟨g, k * 5 + 1, none⟩) HOG.out.lo _).alloc (by simpa using HB.out.size) _)
      go_roundw
      case rel => exact ⟨k + 1, HLT.out, by go_num, by rw [HST.out], Lib.hid (fun _ => ⟨g, rfl, HO'.out⟩), HB'⟩
      case measure => have := HLT.out; simp [intOf]; omega
    · have hke : k = n := by omega
      have HF : Hid (sumN (fillN f s) k = sumN (fillN f s) n ∧ RI2 w.heap.size wr A' 5 n (flP f s n)) := Lib.hid (by
        rw [hke]
        refine ⟨rfl, fun hp => ?_⟩
        obtain ⟨g, e, hog⟩ := HOW.out hp
        rw [hke] at hog
        rw [e]
        exact hog.ri2 hp)
      clear hke
      go_wp2
      refine bodyPost_ret (results_tmp3 rfl _ _ _) rfl ?_
      exact ⟨⟨A', c', congrArg (fun z => Ending.returned (.tuple #[.slice A' n c', .int .i64 z, .int .i64 0])) HF.out.1, HF.out.2, HA.out⟩, HB.out⟩
end Go.Proofs.Ytljhocdbfbjpiaa
