/-
  What a step of a system does; a step with arguments out of range.
-/
import Derived.Test.YtljhocdbfbjpiaaWtWhy
import Derived.Test.YtljhocdbfbjpiaaWtUsed
import Derived.Test.YtljhocdbfbjpiaaWtTake
namespace Go.Proofs.Ytljhocdbfbjpiaa
open Go.RowKit

theorem MapI.setFar {w : World} {b n : Nat} {M : Int → Int} (h : MapI w b n M) {q : Addr} (v : Value) : MapI (w.setCell q v) b n M := by
  obtain ⟨D, ho, h1, h2⟩ := h
  obtain ⟨es, clock, hh, F, hs, hD⟩ := ho
  refine ⟨D, ⟨es, clock, ?_, F, hs, hD⟩, h1, h2⟩
  by_cases e : b = q.block
  · simp only [World.setCell, Array.getElem?_modify]
    rw [← e]
    simp [hh]
  · rw [Below.heap_setCell _ _ _ _ e]
    exact hh
def mmS (S : Sys) (wet sec : Int) (i : Nat) : Int := if runS S wet sec (S.fa i 0) S.ng / S.fa i 1 < 1000 then runS S wet sec (S.fa i 0) S.ng / S.fa i 1 else 1000
def mkS (S : Sys) (wet sec : Int) (i : Nat) : Int × Int × Int × Int := Snow.make (S.fa i 2) (S.fa i 3) (S.fa i 4) (mmS S wet sec i)
def faS (S : Sys) (wet sec : Int) (k i j : Nat) : Int :=
  if i < k then (if j = 2 then (mkS S wet sec i).1 else if j = 3 then (mkS S wet sec i).2.1 else if j = 4 then (mkS S wet sec i).2.2.1 else S.fa i j) else S.fa i j
def losS (S : Sys) (wet sec : Int) (k : Nat) : Int := S.lo + sumN (fun i => runS S wet sec (S.fa i 0) S.ng - mmS S wet sec i * S.fa i 1) k
abbrev sumV (S : Sys) (wet sec : Int) : Int := sumN (vS S wet sec) S.ng
structure NumOK (S : Sys) : Prop where
  p : 0 ≤ S.p ∧ S.p ≤ 10000000
  l : 0 ≤ S.l ∧ S.l ≤ 1000000000
  t : 0 ≤ S.t ∧ S.t ≤ 20000000
  wa : 0 ≤ S.wa ∧ S.wa ≤ 1125899906842624
  lo : 0 ≤ S.lo ∧ S.lo ≤ 1125899906842624
  en : 0 ≤ S.en ∧ S.en ≤ 1125899906842624
  inn : 0 ≤ S.inn ∧ S.inn ≤ 1125899906842624
def PackOK (S : Sys) : Prop := ∀ i, i < S.na → 1 ≤ S.fa i 0 ∧ S.fa i 0 ≤ 9999 ∧ 1 ≤ S.fa i 1 ∧ S.fa i 1 ≤ 10000000
/-- When a step succeeds. -/
structure StepOK (S : Sys) (wet sec : Int) : Prop where
  r1 : 1 ≤ sec
  r2 : sec ≤ 3600
  r3 : S.t + sec ≤ 20000000
  r4 : -1000 ≤ wet
  r5 : wet ≤ 1000
  pw : ∃ P, PowR S wet P 0 ∧ P ≤ S.l
  low : LowOK S.fi S.ni S.p (neS S)
  sp : sumV S wet sec ≤ sumN (spF S.fp) S.np
  mks : ∀ i, i < S.na → (mkS S wet sec i).2.2.2 = 0
  ct : ∀ P Q, PowR S wet P 0 → (∀ i, i < S.np → 0 ≤ Q i ∧ Q i ≤ 20000000) → (S.np = 1 → Q 0 = sumV S wet sec) →
    cntB (S.wa + sumV S wet sec) (losS S wet sec S.na) (S.en + P * sec) (S.inn + sumN (fillN (tkF S.fp Q S.np) sec) S.np) = true
/-- What a step that succeeded has done. -/
def StepGood (S : Sys) (wet sec : Int) (v0 v5 : Value) (wa en : Int) (w' : World) : Prop :=
  1 ≤ sec ∧ sec ≤ 3600 ∧ ∃ P A c B d Q, PowR S wet P 0 ∧ P ≤ S.l ∧ wa = S.wa + sumV S wet sec ∧ en = S.en + P * sec ∧ v5 = .slice B S.na d ∧ RI w' B 5 S.na (faS S wet sec S.na) ∧
    (∀ i, i < S.na → (mkS S wet sec i).2.2.2 = 0) ∧ v0 = .slice A S.np c ∧ RI w' A 5 S.np (flP (tkF S.fp Q S.np) sec S.np) ∧ (S.np = 1 → Q 0 = sumV S wet sec)
def One6 (v0 v1 v2 v3 v4 v5 : Value) : Prop := v0.oneCell' = true ∧ v1.oneCell' = true ∧ v2.oneCell' = true ∧ v3.oneCell' = true ∧ v4.oneCell' = true ∧ v5.oneCell' = true
def StepPost (S : Sys) (wet sec : Int) (w : World) (e : Ending) (w' : World) : Prop :=
  (∃ v0 v1 v2 v3 v4 v5 p l t wa lo en inn E, e = .returned (.tuple #[sysV v0 v1 v2 v3 v4 v5 p l t wa lo en inn, .int .i64 E]) ∧ One6 v0 v1 v2 v3 v4 v5 ∧ (E = 0 → StepGood S wet sec v0 v5 wa en w') ∧ (StepOK S wet sec → E = 0)) ∧ Below w.heap.size w w'
theorem StepPost.bad {S : Sys} {wet sec : Int} {w w' : World} (E : Int) (hE : E ≠ 0) (h : ¬ StepOK S wet sec) (hb : Below w.heap.size w w') : StepPost S wet sec w (.returned (.tuple #[sysV (.slice none 0 0) (.slice none 0 0) (.slice none 0 0) (.slice none 0 0) (.slice none 0 0) (.slice none 0 0) 0 0 0 0 0 0 0, .int .i64 E])) w' :=
  ⟨⟨_, _, _, _, _, _, _, _, _, _, _, _, _, _, rfl, ⟨rfl, rfl, rfl, rfl, rfl, rfl⟩, fun h => absurd h hE, fun h' => absurd h' h⟩, hb⟩

set_option maxRecDepth 40000 in
set_option maxHeartbeats 8000000 in
theorem step_range (S : Sys) (wet sec : Int) (w : World) (hN : NumOK S) (hr : sec < 1 ∨ (1 ≤ sec ∧ 3600 < sec) ∨ (1 ≤ sec ∧ sec ≤ 3600 ∧ 20000000 < S.t + sec) ∨ (1 ≤ sec ∧ sec ≤ 3600 ∧ S.t + sec ≤ 20000000 ∧ wet < -1000) ∨ (1 ≤ sec ∧ sec ≤ 3600 ∧ S.t + sec ≤ 20000000 ∧ -1000 ≤ wet ∧ 1000 < wet)) :
    Calls Try.prog 13 #[sysS S, .int .i64 wet, .int .i64 sec] w (StepPost S wet sec w) := by
  have HB := Lib.hid (show ¬ StepOK S wet sec from fun h => by
    have := h.r1; have := h.r2; have := h.r3; have := h.r4; have := h.r5
    omega)
  obtain ⟨t0, t1⟩ := hN.t
  clear hN
  rcases hr with h1 | ⟨h1, h2⟩ | ⟨h1, h2, h3⟩ | ⟨h1, h2, h3, h4⟩ | ⟨h1, h2, h3, h4, h5⟩
  all_goals
    go_enter Try.func13, Try.ntmps13
    go_wp2
    refine bodyPost_ret (v := .tuple #[sysV (.slice none 0 0) (.slice none 0 0) (.slice none 0 0) (.slice none 0 0) (.slice none 0 0) (.slice none 0 0) 0 0 0 0 0 0 0, .int .i64 2]) (by simp [results, Try.results13, go_sem]) rfl ?_
    refine StepPost.bad 2 (by omega) HB.out ?_
    go_grown
end Go.Proofs.Ytljhocdbfbjpiaa
