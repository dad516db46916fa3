/-
  A slice of ints that came in, as 'Rd' wants it.
-/
import Derived.Test.YtljhocdbfbjpiaaSlice
import Derived.ProofKit
import Derived.OpenShut
namespace Go.Proofs.Ytljhocdbfbjpiaa
open Go.RowKit Go.WideShapes Go.ChangeShapes

theorem read_ints {H : Type} {enc : TypeId × Value → H} {P : Program} {w : World} {base : Nat} {held : Bool} {t e : TypeId} {fuel : Nat} {v : Value} {x : DataW H × List MemPlace} {sp : Nat → Bool}
    (ht : P.underlying t = some (.slice e)) (he : P.underlying e = some (.int .i64)) (hc : P.cellsOf e = 1) (h : DataW.trod enc P w base sp held fuel t [v] = some x) :
    ∃ (A : Option Addr) (c : Nat) (xs : List Int), v = .slice A xs.length c ∧ Rd w A xs ∧ xs.length ≤ c ∧ c ≤ maxLen ∧ ∀ n ∈ xs, (Lit.int .i64 n).wf = true := by
  rcases open_ints ht he hc h with ⟨hcs, _⟩ | ⟨a, len, cap, zs, hcs, _, hl, hm, hz, _, hcell, hw⟩
  · have hv : v = .slice none 0 0 := by simpa using hcs
    exact ⟨none, 0, [], hv, Rd.nil _ _, by simp, Nat.zero_le _, by simp⟩
  · have hv : v = .slice (some a) len cap := by simpa using hcs
    have hlz : len ≤ zs.length := by rw [hz]; split <;> omega
    have hlen : (zs.take len).length = len := by rw [List.length_take]; omega
    refine ⟨some a, cap, zs.take len, by rw [hlen]; exact hv, fun hp => ?_, by omega, hm, fun n hn => hw n (List.mem_of_mem_take hn)⟩
    obtain ⟨b, off, rfl, hc'⟩ := ints_at hcell (by omega)
    have h0 := hc' 0 (by omega)
    refine ⟨b, off, rfl, World.block_lt_of_cell? w _ h0, fun i hi => ?_⟩
    have hi' : i < len := by omega
    rw [hc' i (by omega), List.getElem?_take, if_pos hi']
    simp [List.getD]
end Go.Proofs.Ytljhocdbfbjpiaa
