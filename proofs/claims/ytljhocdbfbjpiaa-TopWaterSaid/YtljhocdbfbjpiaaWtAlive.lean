/-
  The example that the statement on water looks at first.
-/
import Derived.Test.YtljhocdbfbjpiaaWtStepA
import Derived.Test.YtljhocdbfbjpiaaWtStepB
import Derived.Test.YtljhocdbfbjpiaaWtStore
namespace Go.Proofs.Ytljhocdbfbjpiaa
open Go.RowKit

def row (l : List Int) (_ j : Nat) : Int := l[j]?.getD 0
def alK (n : Nat) : KK := ⟨fun _ => 1, fun _ => some ⟨n + 1 + 1 + 1, 0, none⟩, fun _ => 1, fun _ => [(-50, 100)], fun _ => 500, fun _ => 0⟩
def alS (n : Nat) : Sys where
  po := some ⟨n, 0, none⟩
  pu := some ⟨n + 1, 0, none⟩
  pi := some ⟨n + 1 + 1, 0, none⟩
  ki := some ⟨n + 1 + 1 + 1 + 1, 0, none⟩
  gu := some ⟨n + 1 + 1 + 1 + 1 + 1, 0, none⟩
  pa := some ⟨n + 1 + 1 + 1 + 1 + 1 + 1, 0, none⟩
  np := 1
  nu := 1
  ni := 1
  nk := 1
  ng := 1
  na := 1
  cp := 1
  cu := 1
  ci := 1
  ck := 1
  cg := 1
  ca := 1
  fp := row [1, 10000, 0, 20000, 0]
  fu := row [1, 500, 2000]
  fi := row [1, 0, 1, 0, 0]
  K := alK n
  fg := row [1, 1, 7, 1, 1, 0, 0, 0]
  fa := row [7, 10, 0, 0, 450]
  p := 4000
  l := 5000
  t := 0
  wa := 0
  lo := 0
  en := 0
  inn := 0
theorem al_out1 (wet : Int) : outV [(-50, 100)] wet = 100 := by
  have h : Fix.pts [(-50, 100)] = true := by decide
  rw [outV, if_pos h]
  rfl
theorem al_out0 (wet : Int) : outV [] wet = 0 := rfl
theorem al_dr (n : Nat) (wet : Int) : drS (alS n) wet = [(1, 100)] := by
  show (if row [1, 1, 7, 1, 1, 0, 0, 0] 0 4 = 1 then ([] : List (Int × Int)) ++ [(row [1, 1, 7, 1, 1, 0, 0, 0] 0 1, outV (kPs (alK n) (some 0)) wet)] else []) = _
  rw [if_pos (show row [1, 1, 7, 1, 1, 0, 0, 0] 0 4 = 1 from rfl), show kPs (alK n) (some 0) = [(-50, 100)] from rfl, al_out1]
  rfl
theorem al_ne (n : Nat) : neS (alS n) = [(1, 0)] := rfl
theorem al_flow (n : Nat) (wet : Int) : flowS (alS n) wet = 100 := by
  show sumN (Fix.py (drS (alS n) wet)) (drS (alS n) wet).length = _
  rw [al_dr]
  rfl
theorem al_v (n : Nat) (wet : Int) : vS (alS n) wet 60 0 = 100 := by
  show (if row [1, 1, 7, 1, 1, 0, 0, 0] 0 4 = 1 then outV (kPs (alK n) (some 0)) wet * 60 / 60 else 0) = _
  rw [if_pos (show row [1, 1, 7, 1, 1, 0, 0, 0] 0 4 = 1 from rfl), show kPs (alK n) (some 0) = [(-50, 100)] from rfl, al_out1]
  rfl
theorem al_sum (n : Nat) (wet : Int) : sumV (alS n) wet 60 = 100 := by
  show 0 + vS (alS n) wet 60 0 = 100
  rw [al_v]
  rfl
theorem al_run (n : Nat) (wet : Int) : runS (alS n) wet 60 7 1 = 100 := by
  show 0 + (if row [1, 1, 7, 1, 1, 0, 0, 0] 0 2 = 7 then vS (alS n) wet 60 0 else 0) = 100
  rw [if_pos (show row [1, 1, 7, 1, 1, 0, 0, 0] 0 2 = 7 from rfl), al_v]
  rfl
theorem al_mm (n : Nat) (wet : Int) : mmS (alS n) wet 60 0 = 10 := by
  show (if runS (alS n) wet 60 7 1 / 10 < 1000 then runS (alS n) wet 60 7 1 / 10 else 1000) = 10
  rw [al_run]
  rfl
theorem al_mk (n : Nat) (wet : Int) : mkS (alS n) wet 60 0 = (0, 10, 450, 0) := by
  show Snow.make 0 0 450 (mmS (alS n) wet 60 0) = _
  rw [al_mm]
  decide
theorem al_pw (n : Nat) (wet : Int) : PowR (alS n) wet 2500 0 := by
  refine .inl ⟨rfl, 2000, .inl ⟨rfl, ⟨[0], ?_, rfl⟩, fun ch h => ?_⟩, rfl⟩
  · rw [al_flow]
    show (100 : Int) ≤ 500
    omega
  · rw [al_flow] at h
    have h2 : (100 : Int) ≤ 0 + (if ((0 : Nat) : Int) ∈ ch then 500 else 0) := h
    show (2000 : Int) ≤ 0 + (if ((0 : Nat) : Int) ∈ ch then 2000 else 0)
    split at h2
    · rename_i hm
      rw [if_pos hm]
      omega
    · omega
theorem al_sysr (n : Nat) : SysR (alS n) where
  u1 := fun i _ => by show (0 : Int) ≤ 500 ∧ (500 : Int) ≤ 100000000; omega
  u2 := fun i _ => by show (0 : Int) ≤ 2000 ∧ (2000 : Int) ≤ 100000000; omega
  pw := fun i _ => by show (0 : Int) ≤ 500 ∧ (500 : Int) ≤ 1000000; omega
  gr := fun i _ => by show (1 : Int) ≤ 7 ∧ (7 : Int) ≤ 9999; omega
  out := fun x wet => by
    show 0 ≤ outV (kPs (alK n) (if (1 : Int) = x then some 0 else none)) wet ∧ outV (kPs (alK n) (if (1 : Int) = x then some 0 else none)) wet ≤ 10000
    split
    · rw [show kPs (alK n) (some 0) = [(-50, 100)] from rfl, al_out1]
      omega
    · rw [show kPs (alK n) none = [] from rfl, al_out0]
      omega
theorem al_num (n : Nat) : NumOK (alS n) where
  p := by show (0 : Int) ≤ 4000 ∧ (4000 : Int) ≤ 10000000; omega
  l := by show (0 : Int) ≤ 5000 ∧ (5000 : Int) ≤ 1000000000; omega
  t := by show (0 : Int) ≤ 0 ∧ (0 : Int) ≤ 20000000; omega
  wa := by show (0 : Int) ≤ 0 ∧ (0 : Int) ≤ 1125899906842624; omega
  lo := by show (0 : Int) ≤ 0 ∧ (0 : Int) ≤ 1125899906842624; omega
  en := by show (0 : Int) ≤ 0 ∧ (0 : Int) ≤ 1125899906842624; omega
  inn := by show (0 : Int) ≤ 0 ∧ (0 : Int) ≤ 1125899906842624; omega
theorem al_pond (n : Nat) : PondOK (alS n).fp (alS n).np := fun i _ => by
  show (0 : Int) ≤ 0 ∧ (0 : Int) ≤ 10000 ∧ (10000 : Int) ≤ 20000 ∧ (20000 : Int) ≤ 1000000000 ∧ (0 : Int) ≤ 0 ∧ (0 : Int) ≤ 10000000
  omega
theorem al_pack (n : Nat) : PackOK (alS n) := fun i _ => by
  show (1 : Int) ≤ 7 ∧ (7 : Int) ≤ 9999 ∧ (1 : Int) ≤ 10 ∧ (10 : Int) ≤ 10000000
  omega
theorem al_sysz (n : Nat) : SysZ (alS n) where
  np := by show 1 ≤ 8; omega
  nu := by show 1 ≤ 8; omega
  ni := by show 1 ≤ 8; omega
  nk := by show 1 ≤ 8; omega
  ng := by show 1 ≤ 8; omega
  na := by show 1 ≤ 8; omega
  kp := fun i _ => by show 1 ≤ 70; omega
  po0 := fun h => by cases h
  pu0 := fun h => by cases h
  pi0 := fun h => by cases h
  ki0 := fun h => by cases h
  gu0 := fun h => by cases h
  pa0 := fun h => by cases h
  kp0 := fun i _ h => by cases h
theorem al_fill (n : Nat) (Q : Nat → Int) (h : Q 0 = 100) : fillN (tkF (alS n).fp Q 1) 60 0 = 0 ∧ flP (tkF (alS n).fp Q 1) 60 1 0 1 = 9900 := by
  have e1 : tkF (alS n).fp Q 1 0 1 = 9900 := by
    show (if 0 < 1 ∧ 1 = 1 then (10000 : Int) - Q 0 else 10000) = 9900
    rw [if_pos ⟨by omega, rfl⟩, h]
    rfl
  have e3 : tkF (alS n).fp Q 1 0 3 = 20000 := rfl
  have e4 : tkF (alS n).fp Q 1 0 4 = 0 := rfl
  have e : fillN (tkF (alS n).fp Q 1) 60 0 = 0 := by
    unfold fillN
    rw [e1, e3, e4]
    rfl
  refine ⟨e, ?_⟩
  unfold flP
  rw [if_pos ⟨by omega, rfl⟩, e, e1]
  rfl
theorem al_ok (n : Nat) : StepOK (alS n) (-50) 60 where
  r1 := by omega
  r2 := by omega
  r3 := by show (0 : Int) + 60 ≤ 20000000; omega
  r4 := by omega
  r5 := by omega
  pw := ⟨2500, al_pw n _, by show (2500 : Int) ≤ 5000; omega⟩
  low := by
    refine ⟨fun i _ => ⟨rfl, rfl, rfl⟩, fun k hk => ?_⟩
    rw [al_ne] at hk ⊢
    obtain rfl : k = 0 := by simp at hk; omega
    exact ⟨⟨0, by show 0 < 1; omega, rfl⟩, by show (0 : Int) ≤ 4000; omega⟩
  sp := by
    rw [al_sum]
    show (100 : Int) ≤ 10000
    omega
  mks := fun i hi => by
    obtain rfl : i = 0 := by have : i < 1 := hi; omega
    rw [al_mk]
  ct := fun P Q hP _ hQ => by
    have e := PowR.uniq hP (al_pw n _)
    have hq := hQ rfl
    rw [al_sum] at hq
    rw [al_sum, e]
    have h1 : losS (alS n) (-50) 60 (alS n).na = 0 := by
      show (0 : Int) + (0 + (runS (alS n) (-50) 60 7 1 - mmS (alS n) (-50) 60 0 * 10)) = 0
      rw [al_run, al_mm]
      rfl
    have h2 : sumN (fillN (tkF (alS n).fp Q (alS n).np) 60) (alS n).np = 0 := by
      show 0 + fillN (tkF (alS n).fp Q 1) 60 0 = 0
      rw [(al_fill n Q hq).1]
      rfl
    rw [h1, h2]
    show cntB (0 + 100) 0 (0 + 2500 * 60) (0 + 0) = true
    decide
end Go.Proofs.Ytljhocdbfbjpiaa
namespace Go.Proofs.Ytljhocdbfbjpiaa
open Go.RowKit

def alW (w : World) : World :=
  ((((((((w.alloc (.cells #[.int .i64 1, .int .i64 10000, .int .i64 0, .int .i64 20000, .int .i64 0] 92)).alloc
    (.cells #[.int .i64 1, .int .i64 500, .int .i64 2000] 94)).alloc
    (.cells #[.int .i64 1, .int .i64 0, .int .i64 1, .int .i64 0, .int .i64 0] 96)).alloc
    (.cells #[.int .i64 (-50), .int .i64 100] 98)).alloc
    (.cells #[.int .i64 1, .slice (some ⟨w.heap.size + 1 + 1 + 1, 0, none⟩) 1 1, .int .i64 500, .int .i64 0] 44)).alloc
    (.cells #[.int .i64 1, .int .i64 1, .int .i64 7, .int .i64 1, .int .i64 1, .int .i64 0, .int .i64 0, .int .i64 0] 51)).alloc
    (.cells #[.int .i64 7, .int .i64 10, .int .i64 0, .int .i64 0, .int .i64 450] 57)).alloc
    (.cells #[.slice (some ⟨w.heap.size, 0, none⟩) 1 1, .slice (some ⟨w.heap.size + 1, 0, none⟩) 1 1, .slice (some ⟨w.heap.size + 1 + 1, 0, none⟩) 1 1, .slice (some ⟨w.heap.size + 1 + 1 + 1 + 1, 0, none⟩) 1 1, .slice (some ⟨w.heap.size + 1 + 1 + 1 + 1 + 1, 0, none⟩) 1 1, .slice (some ⟨w.heap.size + 1 + 1 + 1 + 1 + 1 + 1, 0, none⟩) 1 1, .int .i64 4000, .int .i64 5000, .int .i64 0, .int .i64 0, .int .i64 0, .int .i64 0, .int .i64 0] 41))
theorem ri_one {w : World} {b k : Nat} {f : Nat → Nat → Int} (hb : b < w.heap.size) (h : ∀ j, j < k → w.cell? ⟨b, j, none⟩ = some (.int .i64 (f 0 j))) : RI w (some ⟨b, 0, none⟩) k 1 f := fun _ =>
  ⟨b, 0, rfl, hb, fun i hi j hj => by
    obtain rfl : i = 0 := by omega
    rw [Nat.zero_mul]; simpa using h j hj⟩
theorem five {P : Nat → Prop} (h0 : P 0) (h1 : P 1) (h2 : P 2) (h3 : P 3) (h4 : P 4) : ∀ j, j < 5 → P j
  | 0, _ => h0 | 1, _ => h1 | 2, _ => h2 | 3, _ => h3 | 4, _ => h4
  | j + 5, h => absurd h (by omega)
theorem three {P : Nat → Prop} (h0 : P 0) (h1 : P 1) (h2 : P 2) : ∀ j, j < 3 → P j
  | 0, _ => h0 | 1, _ => h1 | 2, _ => h2
  | j + 3, h => absurd h (by omega)
theorem eight {P : Nat → Prop} (h0 : P 0) (h1 : P 1) (h2 : P 2) (h3 : P 3) (h4 : P 4) (h5 : P 5) (h6 : P 6) (h7 : P 7) : ∀ j, j < 8 → P j
  | 0, _ => h0 | 1, _ => h1 | 2, _ => h2 | 3, _ => h3 | 4, _ => h4 | 5, _ => h5 | 6, _ => h6 | 7, _ => h7
  | j + 8, h => absurd h (by omega)
theorem all13 {v0 v1 v2 v3 v4 v5 : Value} (h0 : v0.oneCell' = true) (h1 : v1.oneCell' = true) (h2 : v2.oneCell' = true) (h3 : v3.oneCell' = true) (h4 : v4.oneCell' = true) (h5 : v5.oneCell' = true) (p l t wa lo en inn : Int) :
    (#[v0, v1, v2, v3, v4, v5, .int .i64 p, .int .i64 l, .int .i64 t, .int .i64 wa, .int .i64 lo, .int .i64 en, .int .i64 inn] : Array Value).all (fun v => v.oneCell') = true := by
  rw [← Array.all_toList]
  simp only [List.all_cons, h0, h1, h2, h3, h4, h5]
  rfl
theorem alW_size (w : World) : (alW w).heap.size = w.heap.size + 1 + 1 + 1 + 1 + 1 + 1 + 1 + 1 := by simp [alW]
theorem alW_below (w : World) : Below w.heap.size w (alW w) := by unfold alW; go_grown
theorem al_mem (w : World) : SysM (alW w) (alS w.heap.size) where
  po := ri_one (by rw [alW_size]; omega) (five (by simp [alW, go_sem, row, alS]) (by simp [alW, go_sem, row, alS]) (by simp [alW, go_sem, row, alS]) (by simp [alW, go_sem, row, alS]) (by simp [alW, go_sem, row, alS]))
  pu := ri_one (by rw [alW_size]; omega) (three (by simp [alW, go_sem, row, alS]) (by simp [alW, go_sem, row, alS]) (by simp [alW, go_sem, row, alS]))
  pi := ri_one (by rw [alW_size]; omega) (five (by simp [alW, go_sem, row, alS]) (by simp [alW, go_sem, row, alS]) (by simp [alW, go_sem, row, alS]) (by simp [alW, go_sem, row, alS]) (by simp [alW, go_sem, row, alS]))
  ki := fun _ => ⟨w.heap.size + 1 + 1 + 1 + 1, 0, rfl, by rw [alW_size]; omega, fun i hi => by
    obtain rfl : i = 0 := by have : i < 1 := hi; omega
    refine ⟨⟨by simp [alW, go_sem, alS, alK], by simp [alW, go_sem, alS, alK], by simp [alW, go_sem, alS, alK], by simp [alW, go_sem, alS, alK]⟩, fun _ => ⟨w.heap.size + 1 + 1 + 1, 0, rfl, by rw [alW_size]; omega, fun j hj => ?_⟩⟩
    obtain rfl : j = 0 := by have : j < 1 := hj; omega
    exact ⟨by simp [alW, go_sem, alS, alK, Fix.px], by simp [alW, go_sem, alS, alK, Fix.py]⟩⟩
  gu := ri_one (by rw [alW_size]; omega) (eight (by simp [alW, go_sem, row, alS]) (by simp [alW, go_sem, row, alS]) (by simp [alW, go_sem, row, alS]) (by simp [alW, go_sem, row, alS]) (by simp [alW, go_sem, row, alS]) (by simp [alW, go_sem, row, alS]) (by simp [alW, go_sem, row, alS]) (by simp [alW, go_sem, row, alS]))
  pa := ri_one (by rw [alW_size]; omega) (five (by simp [alW, go_sem, row, alS]) (by simp [alW, go_sem, row, alS]) (by simp [alW, go_sem, row, alS]) (by simp [alW, go_sem, row, alS]) (by simp [alW, go_sem, row, alS]))
set_option maxRecDepth 20000 in
set_option maxHeartbeats 4000000 in
theorem waterAlive_any (w : World) : Calls Try.prog 11 #[] w fun e w' => e = .returned (.bool true) ∧ Below w.heap.size w w' := by
  have HC := Lib.hid (step_main (alS w.heap.size) (-50) 60 (alW w) (al_mem w) (al_sysz _) (al_sysr _) (al_pond _) (al_pack _) (al_num _) (by omega) (by omega) (by show (0 : Int) + 60 ≤ 20000000; omega) (by omega) (by omega))
  have HAB := Lib.hid (alW_below w)
  go_enter Try.func11, Try.ntmps11
  go_wp2_with fail
  refine HC.out.mono ?_
  rintro e w1 ⟨⟨v0, v1, v2, v3, v4, v5, p, l, t, wa, lo, en, inn, E, rfl, ho, hg, hok⟩, hb1⟩
  have hE := hok (al_ok _)
  subst hE
  obtain ⟨-, -, P, A, c, B, d, Q, -, -, -, -, h5, hB, -, h0, hA, hQ⟩ := hg rfl
  replace h5 : v5 = .slice B 1 d := h5
  replace h0 : v0 = .slice A 1 c := h0
  subst h5 h0
  have hq := hQ rfl
  rw [al_sum] at hq
  obtain ⟨b, off, rfl, hbz0, hc⟩ := hB.at_ (i := 0) (by show 0 < 1; omega)
  obtain ⟨a, aff, rfl, haz, hd⟩ := hA.at_ (i := 0) (by show 0 < 1; omega)
  have c3 := hc 3 (by omega)
  have d1 := hd 1 (by omega)
  rw [show flP (tkF (alS w.heap.size).fp Q (alS w.heap.size).np) 60 (alS w.heap.size).np 0 1 = 9900 from (al_fill _ Q hq).2] at d1
  rw [show faS (alS w.heap.size) (-50) 60 (alS w.heap.size).na 0 3 = 10 by
    show (mkS (alS w.heap.size) (-50) 60 0).2.1 = 10
    rw [al_mk]] at c3
  rw [Nat.zero_mul, Nat.add_zero] at c3 d1
  have HB1 := Lib.hid (thru HAB.out hb1 HAB.out.size)
  obtain ⟨o0, o1, o2, o3, o4, o5⟩ := ho
  clear hc hd hA hB hg hok hq hQ hb1 HC HAB
  have hx := BoxAt.mk0 w1 (.slice none 0 0) (.slice none 0 0) (.slice none 0 0) (.slice none 0 0) (.slice none 0 0) (.slice none 0 0) 0 0 0 0 0 0 0
  have HTH := Lib.hid hx.there
  have HBX := Lib.hid (hx.stored (.slice (some ⟨a, aff, none⟩) 1 c) v1 v2 v3 v4 (.slice (some ⟨b, off, none⟩) 1 d) p l t wa lo en inn)
  have hbz : Below w1.heap.size w1 ((w1.alloc (.cells #[.slice none 0 0, .slice none 0 0, .slice none 0 0, .slice none 0 0, .slice none 0 0, .slice none 0 0, .int .i64 0, .int .i64 0, .int .i64 0, .int .i64 0, .int .i64 0, .int .i64 0, .int .i64 0] 41)).setCells w1.heap.size 0 [.slice (some ⟨a, aff, none⟩) 1 c, v1, v2, v3, v4, .slice (some ⟨b, off, none⟩) 1 d, .int .i64 p, .int .i64 l, .int .i64 t, .int .i64 wa, .int .i64 lo, .int .i64 en, .int .i64 inn]) := (Joins.below_alloc1 w1 (.cells #[.slice none 0 0, .slice none 0 0, .slice none 0 0, .slice none 0 0, .slice none 0 0, .slice none 0 0, .int .i64 0, .int .i64 0, .int .i64 0, .int .i64 0, .int .i64 0, .int .i64 0, .int .i64 0] 41)).trans ((setCells_only w1.heap.size [.slice (some ⟨a, aff, none⟩) 1 c, v1, v2, v3, v4, .slice (some ⟨b, off, none⟩) 1 d, .int .i64 p, .int .i64 l, .int .i64 t, .int .i64 wa, .int .i64 lo, .int .i64 en, .int .i64 inn] 0 (w1.alloc (.cells #[.slice none 0 0, .slice none 0 0, .slice none 0 0, .slice none 0 0, .slice none 0 0, .slice none 0 0, .int .i64 0, .int .i64 0, .int .i64 0, .int .i64 0, .int .i64 0, .int .i64 0, .int .i64 0] 41))).below (Nat.le_refl _))
  have HBZ := Lib.hid hbz
  have HO : Hid ((#[.slice (some ⟨a, aff, none⟩) 1 c, v1, v2, v3, v4, .slice (some ⟨b, off, none⟩) 1 d, .int .i64 p, .int .i64 l, .int .i64 t, .int .i64 wa, .int .i64 lo, .int .i64 en, .int .i64 inn] : Array Value).all (fun v => v.oneCell') = true) := Lib.hid (all13 rfl o1 o2 o3 o4 rfl p l t wa lo en inn)
  have HCD := Lib.hid (And.intro c3 (And.intro d1 (And.intro hbz0 haz)))
  clear hx hbz c3 d1 o0 o1 o2 o3 o4 o5 hbz0 haz
  apply_assumption
  iterate 12 go_step
  refine wpList_store_mid rfl 41 (.tmp 2) (.tmp 23) rfl w1.heap.size 0 #[.slice (some ⟨a, aff, none⟩) 1 c, v1, v2, v3, v4, .slice (some ⟨b, off, none⟩) 1 d, .int .i64 p, .int .i64 l, .int .i64 t, .int .i64 wa, .int .i64 lo, .int .i64 en, .int .i64 inn] rfl rfl HTH.out sys_size HO.out ?_
  change wpList _ _ _ _ _ ((w1.alloc (.cells #[.slice none 0 0, .slice none 0 0, .slice none 0 0, .slice none 0 0, .slice none 0 0, .slice none 0 0, .int .i64 0, .int .i64 0, .int .i64 0, .int .i64 0, .int .i64 0, .int .i64 0, .int .i64 0] 41)).setCells w1.heap.size 0 [.slice (some ⟨a, aff, none⟩) 1 c, v1, v2, v3, v4, .slice (some ⟨b, off, none⟩) 1 d, .int .i64 p, .int .i64 l, .int .i64 t, .int .i64 wa, .int .i64 lo, .int .i64 en, .int .i64 inn])
  generalize (w1.alloc (.cells #[.slice none 0 0, .slice none 0 0, .slice none 0 0, .slice none 0 0, .slice none 0 0, .slice none 0 0, .int .i64 0, .int .i64 0, .int .i64 0, .int .i64 0, .int .i64 0, .int .i64 0, .int .i64 0] 41)).setCells w1.heap.size 0 [.slice (some ⟨a, aff, none⟩) 1 c, v1, v2, v3, v4, .slice (some ⟨b, off, none⟩) 1 d, .int .i64 p, .int .i64 l, .int .i64 t, .int .i64 wa, .int .i64 lo, .int .i64 en, .int .i64 inn] = wz at HBX HBZ ⊢
  clear HTH HO
  have c3 := (HBZ.out.cell (p := ⟨b, off + 3, none⟩) HCD.out.2.2.1).trans HCD.out.1
  have d1 := (HBZ.out.cell (p := ⟨a, aff + 1, none⟩) HCD.out.2.2.2).trans HCD.out.2.1
  have b0 := HBX.out.c0
  have b5 := HBX.out.c5
  go_wp2
  go_ret
  exact ⟨rfl, thru HB1.out HBZ.out HB1.out.size⟩
end Go.Proofs.Ytljhocdbfbjpiaa
