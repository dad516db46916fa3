/-
  Plans that came in, as the walks want them.
-/
import Derived.Test.YtljhocdbfbjpiaaPlanOpen
namespace Go.Proofs.Ytljhocdbfbjpiaa
open Go.RowKit Go.WideShapes Go.ChangeShapes Go.Deep Go.Joins

section
variable {H : Type} {enc : TypeId × Value → H} {P : Program} {w : World} {base : Nat} {held : Bool}
theorem read_plan {t e e2 : TypeId} {fuel : Nat} {v : Value} {x : DataW H × List MemPlace} {sp : Nat → Bool}
    (ht : P.underlying t = some (.slice e)) (he : P.underlying e = some (.slice e2)) (he2 : P.underlying e2 = some (.int .i64)) (hC : P.cellsOf e = 1) (hC2 : P.cellsOf e2 = 1) (h : DataW.trod enc P w base sp held fuel t [v] = some x) :
    ∃ (A : Option Addr) (c : Nat) (ls : List (List Int)), v = .slice A ls.length c ∧ RdL w A ls := by
  rcases open_slice ht h with ⟨hcs, _⟩ | ⟨a, len, cap, m, n, D, Pl, hcs, hb, hl, hm, hmm, hx, hi⟩
  · have hv : v = .slice none 0 0 := by simpa using hcs
    exact ⟨none, 0, [], hv, fun hp => absurd hp (by simp)⟩
  · have hv : v = .slice (some a) len cap := by simpa using hcs
    have hlm : len ≤ m := by rw [hmm]; split <;> omega
    have hcell : ∀ i, i < len → ∃ z : List Int, ∃ Ai ci, w.cell? (a.add i) = some (.slice Ai z.length ci) ∧ Rd w Ai z := by
      intro i hil
      obtain ⟨cs', hc, ht'⟩ := hi i (by omega)
      rw [hC] at hc
      obtain ⟨_, hcl, hat⟩ := World.cells?_some hc
      have h0 : 0 < cs'.length := by omega
      have hcs1 : cs' = [cs'[0]'h0] := by
        match cs', hcl with
        | [y], _ => rfl
      rw [hcs1] at ht'
      obtain ⟨Ai, ci, z, hz1, hz2, _⟩ := read_ints he he2 hC2 ht'
      have hcell0 := hat (i := 0) (by omega)
      refine ⟨z, Ai, ci, ?_, hz2⟩
      rw [Nat.mul_one] at hcell0
      rw [← hz1]
      simpa [Addr.add, List.getElem?_eq_getElem h0] using hcell0
    rcases Nat.eq_zero_or_pos len with hz | hz
    · subst hz
      exact ⟨some a, cap, [], hv, fun hp => absurd hp (by simp)⟩
    · obtain ⟨b, off, spot⟩ := a
      have hspot : spot = none := by
        obtain ⟨z, Ai, ci, hz1, _⟩ := hcell 0 hz
        simpa [Addr.add] using World.cell?_spot hz1
      subst hspot
      obtain ⟨ls, hpl, hp⟩ := list_of hcell
      subst hpl
      refine ⟨_, cap, ls, hv, fun _ => ⟨b, off, rfl, ?_, fun i hil => ?_⟩⟩
      · obtain ⟨z, _, Ai, ci, h1, _⟩ := hp 0 hz
        rw [Go.WideShapes.add_plain] at h1
        exact World.block_lt_of_cell? w _ h1
      · obtain ⟨z, hz0, Ai, ci, k0, k1⟩ := hp i hil
        rw [Go.WideShapes.add_plain] at k0
        have e : Plan.lAt ls i = z := by simp [Plan.lAt, hz0]
        rw [e]
        exact ⟨Ai, ci, k0, k1⟩
end
end Go.Proofs.Ytljhocdbfbjpiaa
