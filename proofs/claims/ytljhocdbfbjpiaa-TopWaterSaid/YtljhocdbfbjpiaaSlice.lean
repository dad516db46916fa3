/-
  Words of my own for slices of ints: 'Rd': a slice's address reads as a list; 'Own': it does, and its cells lie from block B on and are not frozen.
-/
import Derived.Test.YtljhocdbfbjpiaaLawAid
import Derived.WalkKit
import Derived.Laws.AppendOwn
namespace Go.Proofs.Ytljhocdbfbjpiaa
open Go.RowKit

def Rd (w : World) (A : Option Addr) (xs : List Int) : Prop :=
  0 < xs.length → ∃ b off, A = some ⟨b, off, none⟩ ∧ b < w.heap.size ∧ ∀ i, i < xs.length → w.cell? ⟨b, off + i, none⟩ = some (.int .i64 (xs[i]?.getD 0))
def Own (B : Nat) (w : World) (A : Option Addr) (xs : List Int) : Prop :=
  0 < xs.length → ∃ b off, A = some ⟨b, off, none⟩ ∧ B ≤ b ∧ b < w.heap.size ∧ (∀ i, i < xs.length → w.cell? ⟨b, off + i, none⟩ = some (.int .i64 (xs[i]?.getD 0))) ∧ ∀ i, w.frozen? ⟨b, off + i, none⟩ = false

theorem Own.rd {B : Nat} {w : World} {A : Option Addr} {xs : List Int} (h : Own B w A xs) : Rd w A xs := fun hp => by
  obtain ⟨b, off, e, _, h1, h2, _⟩ := h hp
  exact ⟨b, off, e, h1, h2⟩
theorem Rd.nil (w : World) (A : Option Addr) : Rd w A [] := fun h => absurd h (by simp)
theorem Own.nil (B : Nat) (w : World) (A : Option Addr) : Own B w A [] := fun h => absurd h (by simp)
theorem Rd.below {w w' : World} {A : Option Addr} {xs : List Int} (h : Rd w A xs) (hb : Below w.heap.size w w') : Rd w' A xs := fun hp => by
  obtain ⟨b, off, e, h1, h2⟩ := h hp
  exact ⟨b, off, e, Nat.lt_of_lt_of_le h1 hb.size, fun i hi => (hb.cell (p := ⟨b, off + i, none⟩) h1).trans (h2 i hi)⟩
theorem Own.below {B : Nat} {w w' : World} {A : Option Addr} {xs : List Int} (h : Own B w A xs) (hb : Below w.heap.size w w') : Own B w' A xs := fun hp => by
  obtain ⟨b, off, e, h0, h1, h2, h3⟩ := h hp
  exact ⟨b, off, e, h0, Nat.lt_of_lt_of_le h1 hb.size, fun i hi => (hb.cell (p := ⟨b, off + i, none⟩) h1).trans (h2 i hi), fun i => (hb.frozen (p := ⟨b, off + i, none⟩) h1).trans (h3 i)⟩
/-- A reading below block B stays while only blocks from B on turn. -/
theorem Rd.thru {w W w' : World} {A : Option Addr} {xs : List Int} (h : Rd w A xs) (hb : Below w.heap.size w W) (hb' : Below w.heap.size W w') : Rd w' A xs := h.below (hb.trans hb')
theorem Own.mono {B B' : Nat} {w : World} {A : Option Addr} {xs : List Int} (h : Own B w A xs) (hB : B' ≤ B) : Own B' w A xs := fun hp => by
  obtain ⟨b, off, e, h0, h1⟩ := h hp
  exact ⟨b, off, e, by omega, h1⟩
/-- A slice that is cut at its head. -/
theorem Own.cut {B : Nat} {w : World} {b off : Nat} {x : Int} {xs : List Int} (h : Own B w (some ⟨b, off, none⟩) (x :: xs)) : Own B w (some ⟨b, off + 1, none⟩) xs := fun hp => by
  obtain ⟨b', off', e, h0, h1, h2, h3⟩ := h (by simp)
  injection e with e
  injection e with e1 e2
  subst e1 e2
  refine ⟨b, off + 1, rfl, h0, h1, fun i hi => ?_, fun i => ?_⟩
  · have := h2 (i + 1) (by simp; omega)
    rw [show off + 1 + i = off + (i + 1) by omega, this]
    simp
  · rw [show off + 1 + i = off + (i + 1) by omega]
    exact h3 (i + 1)
/-- A block that is known whole is a row of one's own. -/
theorem Own.of_block {B g : Nat} {w : World} {t : TypeId} {xs : List Int} (hg : w.heap[g]? = some (.cells (xs.map (Value.int .i64)).toArray t (0, 0))) (hB : B ≤ g) : Own B w (some ⟨g, 0, none⟩) xs := fun _ => by
  have hlt : g < w.heap.size := by
    rcases Nat.lt_or_ge g w.heap.size with h | h
    · exact h
    · rw [Array.getElem?_eq_none h] at hg; cases hg
  refine ⟨g, 0, rfl, hB, hlt, fun i hi => ?_, fun i => ?_⟩
  · simp [World.cell?, hg, hi]
  · simp [World.frozen?, hg]
/-- What a cell of the row holds. -/
theorem Rd.at_ {w : World} {A : Option Addr} {xs : List Int} (h : Rd w A xs) {i : Nat} (hi : i < xs.length) : ∃ b off, A = some ⟨b, off, none⟩ ∧ b < w.heap.size ∧ w.cell? ⟨b, off + i, none⟩ = some (.int .i64 (xs[i]?.getD 0)) := by
  obtain ⟨b, off, e, h1, h2⟩ := h (by omega)
  exact ⟨b, off, e, h1, h2 i hi⟩
/-- A store into another block. -/
theorem Own.set {B : Nat} {w : World} {g off : Nat} {xs : List Int} (h : Own B w (some ⟨g, off, none⟩) xs) {p : Addr} (hp : p.block ≠ g) (v : Value) : Own B (w.setCell p v) (some ⟨g, off, none⟩) xs := fun hl => by
  obtain ⟨b, o, e, h0, h1, h2, h3⟩ := h hl
  injection e with e
  injection e with e1 e2
  subst e1 e2
  refine ⟨g, off, rfl, h0, by simpa using h1, fun i hi => ?_, fun i => ?_⟩
  · rw [World.cell?_setCell_other _ _ _ _ (fun e => hp (by rw [e]))]; exact h2 i hi
  · rw [World.frozen?_setCell]; exact h3 i
theorem Rd.set {w : World} {g off : Nat} {xs : List Int} (h : Rd w (some ⟨g, off, none⟩) xs) {p : Addr} (hp : p.block ≠ g) (v : Value) : Rd (w.setCell p v) (some ⟨g, off, none⟩) xs := fun hl => by
  obtain ⟨b, o, e, h1, h2⟩ := h hl
  injection e with e
  injection e with e1 e2
  subst e1 e2
  refine ⟨g, off, rfl, by simpa using h1, fun i hi => ?_⟩
  rw [World.cell?_setCell_other _ _ _ _ (fun e => hp (by rw [e]))]; exact h2 i hi
/-- What an append has left. -/
theorem Own.of_owns {B g n c : Nat} {w : World} {t : TypeId} {xs : List Int} (h : w.ownsRow B t 1 (.slice (some ⟨g, 0, none⟩) n c) n (xs.map (Value.int .i64))) : Own B w (some ⟨g, 0, none⟩) xs := fun hl => by
  have hc := h.cells (g := g) rfl
  have hlt := h.lt g rfl
  rcases h.2 with ⟨h0, _⟩ | ⟨g', cap, cur, hv, hB, hh, _⟩
  · cases h0
  · injection hv with hv
    injection hv with hv
    injection hv with hv
    subst hv
    refine ⟨g, 0, rfl, hB, hlt.2, fun i hi => ?_, fun i => ?_⟩
    · have := hc i (.int .i64 (xs[i]?.getD 0)) (by rw [List.getElem?_map, List.getElem?_eq_getElem hi]; rfl)
      rw [Go.WideShapes.add_plain] at this
      exact this
    · simp [World.frozen?, hh]
/-- A slice's cells do not lie in block g. -/
def Off (A : Option Addr) (g : Nat) (xs : List Int) : Prop := 0 < xs.length → ∀ b off, A = some ⟨b, off, none⟩ → g ≠ b
theorem Rd.setOff {w : World} {A : Option Addr} {xs : List Int} (h : Rd w A xs) {p : Addr} (hp : Off A p.block xs) (v : Value) : Rd (w.setCell p v) A xs := fun hl => by
  obtain ⟨b, o, e, h1, h2⟩ := h hl
  refine ⟨b, o, e, by simpa using h1, fun i hi => ?_⟩
  rw [World.cell?_setCell_other _ _ _ _ (fun e' => hp hl b o e (by rw [e']))]; exact h2 i hi
theorem Own.setOff {B : Nat} {w : World} {A : Option Addr} {xs : List Int} (h : Own B w A xs) {p : Addr} (hp : Off A p.block xs) (v : Value) : Own B (w.setCell p v) A xs := fun hl => by
  obtain ⟨b, o, e, h0, h1, h2, h3⟩ := h hl
  refine ⟨b, o, e, h0, by simpa using h1, fun i hi => ?_, fun i => ?_⟩
  · rw [World.cell?_setCell_other _ _ _ _ (fun e' => hp hl b o e (by rw [e']))]; exact h2 i hi
  · rw [World.frozen?_setCell]; exact h3 i
/-- What lies from block B on lies in no block below. -/
theorem Own.off {B g : Nat} {w : World} {A : Option Addr} {xs : List Int} (h : Own B w A xs) (hg : g < B) : Off A g xs := fun hl b off e => by
  obtain ⟨b', o, e', h0, _⟩ := h hl
  rw [e] at e'
  injection e' with e'
  injection e' with e1 _
  omega
/-- What lies below the heap's end lies in no later block. -/
theorem Rd.off {g : Nat} {w : World} {A : Option Addr} {xs : List Int} (h : Rd w A xs) (hg : w.heap.size ≤ g) : Off A g xs := fun hl b off e => by
  obtain ⟨b', o, e', h0, _⟩ := h hl
  rw [e] at e'
  injection e' with e'
  injection e' with e1 _
  omega
/-- A store into the first cell of a row of one's own. -/
theorem Own.put {B : Nat} {w : World} {g off : Nat} {x y : Int} {xs : List Int} (h : Own B w (some ⟨g, off, none⟩) (x :: xs)) : Own B (w.setCell ⟨g, off, none⟩ (.int .i64 y)) (some ⟨g, off, none⟩) (y :: xs) := fun _ => by
  obtain ⟨b, o, e, h0, h1, h2, h3⟩ := h (by simp)
  injection e with e
  injection e with e1 e2
  subst e1 e2
  refine ⟨g, off, rfl, h0, by simpa using h1, fun i hi => ?_, fun i => ?_⟩
  · cases i with
    | zero =>
      have := h2 0 (by simp)
      simp at this
      simp [cell_set_self, this]
    | succ i =>
      rw [World.cell?_setCell_other _ _ _ _ (by intro e; injection e with _ e; omega)]
      have := h2 (i + 1) (by simpa using hi)
      simpa using this
  · rw [World.frozen?_setCell]; exact h3 i
/-- The length in a slot. -/
def lenOf : Value → Nat | .slice _ n _ => n | _ => 0
end Go.Proofs.Ytljhocdbfbjpiaa
