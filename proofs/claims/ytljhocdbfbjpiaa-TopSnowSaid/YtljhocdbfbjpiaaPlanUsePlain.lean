/-
  The table of what the sets of guns use, in memory.
-/
import Derived.Test.YtljhocdbfbjpiaaPlanMem
namespace Go.Proofs.Ytljhocdbfbjpiaa
open Go.RowKit

namespace Plan
theorem memL_ok {n set : Nat} : okL n (memL n set) = true := by
  have key : ∀ m, (∀ k, k < (memL m set).length → 0 ≤ iAt (memL m set) k ∧ iAt (memL m set) k < m ∧ (0 < k → iAt (memL m set) (k - 1) < iAt (memL m set) k)) := by
    intro m
    induction m with
    | zero => intro k hk; simp [memL] at hk
    | succ m ih =>
      intro k hk
      rw [memL_succ] at hk ⊢
      by_cases hb : set.testBit m = true
      · rw [if_pos hb] at hk ⊢
        rw [List.length_append] at hk
        simp only [List.length_cons, List.length_nil] at hk
        by_cases hkl : k < (memL m set).length
        · obtain ⟨h1, h2, h3⟩ := ih k hkl
          have e1 : iAt (memL m set ++ [(m : Int)]) k = iAt (memL m set) k := by simp [iAt, List.getElem?_append_left hkl]
          have e2 : iAt (memL m set ++ [(m : Int)]) (k - 1) = iAt (memL m set) (k - 1) := by simp [iAt, List.getElem?_append_left (show k - 1 < (memL m set).length by omega)]
          rw [e1, e2]
          exact ⟨h1, by omega, h3⟩
        · have hke : k = (memL m set).length := by omega
          have e1 : iAt (memL m set ++ [(m : Int)]) k = m := by rw [hke]; simp [iAt]
          rw [e1]
          refine ⟨by omega, by omega, fun h0 => ?_⟩
          have e2 : iAt (memL m set ++ [(m : Int)]) (k - 1) = iAt (memL m set) (k - 1) := by simp [iAt, List.getElem?_append_left (show k - 1 < (memL m set).length by omega)]
          rw [e2]
          exact (ih (k - 1) (by omega)).2.1
      · rw [if_neg hb] at hk ⊢
        obtain ⟨h1, h2, h3⟩ := ih k hk
        exact ⟨h1, by omega, h3⟩
  exact okL_iff.2 fun k hk => key n k hk
/-- What a set uses in an hour: value, water, power. -/
def uV (gs : List Gun) (h : Hour) (set : Nat) : Int := vS gs h.factor (memL gs.length set)
def uW (gs : List Gun) (set : Nat) : Int := wS gs (memL gs.length set)
def uP (gs : List Gun) (set : Nat) : Int := pS gs (memL gs.length set)
end Plan
structure UseAt (w : World) (b o : Nat) (v x p : Int) : Prop where
  c0 : w.cell? ⟨b, o, none⟩ = some (.int .i64 v)
  c1 : w.cell? ⟨b, o + 1, none⟩ = some (.int .i64 x)
  c2 : w.cell? ⟨b, o + 2, none⟩ = some (.int .i64 p)
/-- The cells of the first k uses. -/
def useCells (gs : List Plan.Gun) (h : Plan.Hour) : Nat → List Value
  | 0 => []
  | k + 1 => useCells gs h k ++ [.int .i64 (Plan.uV gs h k), .int .i64 (Plan.uW gs k), .int .i64 (Plan.uP gs k)]
theorem useCells_len (gs : List Plan.Gun) (h : Plan.Hour) (k : Nat) : (useCells gs h k).length = k * 3 := by
  induction k with
  | zero => rfl
  | succ k ih => simp [useCells, ih]; omega
theorem useCells_at (gs : List Plan.Gun) (h : Plan.Hour) : ∀ {k s : Nat}, s < k → (useCells gs h k)[s * 3]? = some (.int .i64 (Plan.uV gs h s)) ∧ (useCells gs h k)[s * 3 + 1]? = some (.int .i64 (Plan.uW gs s)) ∧ (useCells gs h k)[s * 3 + 2]? = some (.int .i64 (Plan.uP gs s))
  | 0, s, hs => absurd hs (by omega)
  | k + 1, s, hs => by
    have hl := useCells_len gs h k
    by_cases e : s = k
    · subst e
      simp [useCells, hl]
    · obtain ⟨h1, h2, h3⟩ := useCells_at gs h (show s < k by omega)
      simp only [useCells]
      rw [List.getElem?_append_left (by omega), List.getElem?_append_left (by omega), List.getElem?_append_left (by omega)]
      exact ⟨h1, h2, h3⟩
/-- One hour's row of the table. -/
def RowU (B : Nat) (gs : List Plan.Gun) (h : Plan.Hour) (w : World) (v : Value) : Prop :=
  ∃ g c, v = .slice (some ⟨g, 0, none⟩) (2 ^ gs.length) c ∧ B < g ∧ g < w.heap.size ∧ ∀ s, s < 2 ^ gs.length → UseAt w g (s * 3) (Plan.uV gs h s) (Plan.uW gs s) (Plan.uP gs s)
theorem UseAt.kept {w w' : World} {b o : Nat} {v x p : Int} (h : UseAt w b o v x p) (hc : ∀ i, w'.cell? ⟨b, i, none⟩ = w.cell? ⟨b, i, none⟩) : UseAt w' b o v x p :=
  ⟨(hc _).trans h.c0, (hc _).trans h.c1, (hc _).trans h.c2⟩
theorem rowU_of {gs : List Plan.Gun} {h : Plan.Hour} {w : World} {B B0 : Nat} {v : Value} (hB0 : B0 < B) (hrow : w.ownsRow B 87 3 v (2 ^ gs.length) (useCells gs h (2 ^ gs.length))) : RowU B0 gs h w v := by
  have hp : 0 < 2 ^ gs.length := Nat.two_pow_pos _
  rcases hrow.2 with ⟨h0, h1⟩ | ⟨g, cap, cur, hv, hB, hh, hr⟩
  · omega
  · refine ⟨g, cap, hv, by omega, ?_, fun s hs => ?_⟩
    · rcases Nat.lt_or_ge g w.heap.size with h | h
      · exact h
      · rw [Array.getElem?_eq_none h] at hh; cases hh
    · have hc := hrow.cells (g := g) (by rw [hv]; rfl)
      obtain ⟨h1, h2, h3⟩ := useCells_at gs h hs
      have k1 := hc _ _ h1
      have k2 := hc _ _ h2
      have k3 := hc _ _ h3
      rw [Go.WideShapes.add_plain, Nat.zero_add] at k1 k2 k3
      exact ⟨k1, k2, k3⟩
theorem RowU.kept {B : Nat} {gs : List Plan.Gun} {h : Plan.Hour} {w w' : World} {v : Value} (hr : RowU B gs h w v) (hg : w.grownBy w' (some B)) : RowU B gs h w' v := by
  obtain ⟨g, c, e, h1, h2, h3⟩ := hr
  refine ⟨g, c, e, h1, Nat.lt_of_lt_of_le h2 hg.size, fun s hs => (h3 s hs).kept fun i => hg.cell_far ⟨g, i, none⟩ h2 ?_⟩
  intro e; injection e with e; simp at e; omega
end Go.Proofs.Ytljhocdbfbjpiaa
