/-
  The memory of the search for the teams, and its end.
-/
import Derived.Test.YtljhocdbfbjpiaaRescB
import Derived.Test.YtljhocdbfbjpiaaPlanTry
namespace Go.Proofs.Ytljhocdbfbjpiaa
open Go.RowKit

abbrev rsCaps (s : Nat) : Array Value := #[.pointer (some ⟨s, 0, none⟩), .pointer (some ⟨s + 7, 0, none⟩), .pointer (some ⟨s + 6, 0, none⟩), .pointer (some ⟨s + 5, 0, none⟩), .pointer (some ⟨s + 3, 0, none⟩), .pointer (some ⟨s + 1, 0, none⟩), .pointer (some ⟨s + 8, 0, none⟩)]
abbrev rsArgs (s : Nat) (i : Int) : Array Value := #[.int .i64 i, .pointer (some ⟨s, 0, none⟩), .pointer (some ⟨s + 7, 0, none⟩), .pointer (some ⟨s + 6, 0, none⟩), .pointer (some ⟨s + 5, 0, none⟩), .pointer (some ⟨s + 3, 0, none⟩), .pointer (some ⟨s + 1, 0, none⟩), .pointer (some ⟨s + 8, 0, none⟩)]
/-- What the search turns: how long the teams are busy, the end, the teams at hand, the best ones. -/
structure RT where
  x : Nat → Int
  e : Int
  n : Nat → Int
  b : Nat → Int
def upd (f : Nat → Int) (i : Nat) (v : Int) (k : Nat) : Int := if k = i then v else f k
structure RS (s g c : Nat) (w W : World) (t : RT) : Prop where
  be : Below s w W
  lo : s + 9 ≤ W.heap.size
  c0 : W.cell? ⟨s, 0, none⟩ = some (.slice (some ⟨g, 0, none⟩) 2 c)
  c1 : W.cell? ⟨s + 1, 0, none⟩ = some (.int .i64 2)
  c3 : W.cell? ⟨s + 3, 0, none⟩ = some (.slice (some ⟨s + 2, 0, none⟩) 2 2)
  c5 : W.cell? ⟨s + 5, 0, none⟩ = some (.slice (some ⟨s + 4, 0, none⟩) 2 2)
  c8 : W.cell? ⟨s + 8, 0, none⟩ = some (.func (.func 81) #[] (rsCaps s))
  e : W.cell? ⟨s + 6, 0, none⟩ = some (.int .i64 t.e)
  x : ∀ k, k < 4 → W.cell? ⟨s + 7, k, none⟩ = some (.int .i64 (t.x k))
  n : ∀ k, k < 2 → W.cell? ⟨s + 2, k, none⟩ = some (.int .i64 (t.n k))
  b : W.heap[s + 4]? = some (.cells #[.int .i64 (t.b 0), .int .i64 (t.b 1)] 3 (0, 0))
  f2 : ∀ k, W.frozen? ⟨s + 2, k, none⟩ = false
  f6 : W.frozen? ⟨s + 6, 0, none⟩ = false
  f7 : ∀ k, W.frozen? ⟨s + 7, k, none⟩ = false
theorem RS.cellO {s : Nat} {W : World} {k j o i : Nat} (h : k ≠ j) (v : Value) : (W.setCell ⟨s + k, o, none⟩ v).cell? ⟨s + j, i, none⟩ = W.cell? ⟨s + j, i, none⟩ :=
  World.cell?_setCell_other _ _ _ _ (by intro e; injection e with e _; omega)
theorem RS.heapO {s : Nat} {W : World} {k j o : Nat} (h : k ≠ j) (v : Value) : (W.setCell ⟨s + k, o, none⟩ v).heap[s + j]? = W.heap[s + j]? :=
  Below.heap_setCell _ _ _ _ (by intro e; have : s + k = s + j := by first | exact e | exact e.symm
                                 omega)
theorem RS.on {s g c : Nat} {w W W' : World} {t : RT} (h : RS s g c w W t) (hb : Below W.heap.size W W') : RS s g c w W' t := by
  have hlo := h.lo
  have hz := hb.size
  have cell : ∀ k i, k < 9 → W'.cell? ⟨s + k, i, none⟩ = W.cell? ⟨s + k, i, none⟩ := fun k i hk => hb.cell (p := ⟨s + k, i, none⟩) (by show s + k < _; omega)
  have froz : ∀ k i, k < 9 → W'.frozen? ⟨s + k, i, none⟩ = W.frozen? ⟨s + k, i, none⟩ := fun k i hk => hb.frozen (p := ⟨s + k, i, none⟩) (by show s + k < _; omega)
  exact ⟨h.be.trans (hb.mono (by omega)), by omega, (cell 0 0 (by omega)).trans h.c0, (cell 1 0 (by omega)).trans h.c1, (cell 3 0 (by omega)).trans h.c3, (cell 5 0 (by omega)).trans h.c5, (cell 8 0 (by omega)).trans h.c8, (cell 6 0 (by omega)).trans h.e,
    fun k hk => (cell 7 k (by omega)).trans (h.x k hk), fun k hk => (cell 2 k (by omega)).trans (h.n k hk), (hb.block (s + 4) (by omega)).trans h.b, fun k => (froz 2 k (by omega)).trans (h.f2 k), (froz 6 0 (by omega)).trans h.f6, fun k => (froz 7 k (by omega)).trans (h.f7 k)⟩
theorem RS.setE {s g c : Nat} {w W : World} {t : RT} (h : RS s g c w W t) (v : Int) : RS s g c w (W.setCell ⟨s + 6, 0, none⟩ (.int .i64 v)) { t with e := v } :=
  ⟨h.be.setCell (by show s ≤ s + 6; omega) _, by simpa using h.lo, (RS.cellO (j := 0) (by omega) _).trans h.c0, (RS.cellO (by omega) _).trans h.c1, (RS.cellO (by omega) _).trans h.c3, (RS.cellO (by omega) _).trans h.c5, (RS.cellO (by omega) _).trans h.c8, by rw [cell_set_self, h.e]; rfl,
    fun k hk => (RS.cellO (by omega) _).trans (h.x k hk), fun k hk => (RS.cellO (by omega) _).trans (h.n k hk), (RS.heapO (by omega) _).trans h.b, fun k => (World.frozen?_setCell _ _ _ _).trans (h.f2 k), (World.frozen?_setCell _ _ _ _).trans h.f6, fun k => (World.frozen?_setCell _ _ _ _).trans (h.f7 k)⟩
theorem RS.setX {s g c : Nat} {w W : World} {t : RT} (h : RS s g c w W t) {i : Nat} (hi : i < 4) (v : Int) : RS s g c w (W.setCell ⟨s + 7, i, none⟩ (.int .i64 v)) { t with x := upd t.x i v } := by
  refine ⟨h.be.setCell (by show s ≤ s + 7; omega) _, by simpa using h.lo, (RS.cellO (j := 0) (by omega) _).trans h.c0, (RS.cellO (by omega) _).trans h.c1, (RS.cellO (by omega) _).trans h.c3, (RS.cellO (by omega) _).trans h.c5, (RS.cellO (by omega) _).trans h.c8, (RS.cellO (by omega) _).trans h.e,
    fun k hk => ?_, fun k hk => (RS.cellO (by omega) _).trans (h.n k hk), (RS.heapO (by omega) _).trans h.b, fun k => (World.frozen?_setCell _ _ _ _).trans (h.f2 k), (World.frozen?_setCell _ _ _ _).trans h.f6, fun k => (World.frozen?_setCell _ _ _ _).trans (h.f7 k)⟩
  by_cases e : k = i
  · subst e
    rw [cell_set_self, h.x k hk]; simp [upd]
  · rw [World.cell?_setCell_other _ _ _ _ (by intro e'; injection e' with _ e'; omega), h.x k hk]
    simp [upd, e]
theorem RS.setN {s g c : Nat} {w W : World} {t : RT} (h : RS s g c w W t) {i : Nat} (hi : i < 2) (v : Int) : RS s g c w (W.setCell ⟨s + 2, i, none⟩ (.int .i64 v)) { t with n := upd t.n i v } := by
  refine ⟨h.be.setCell (by show s ≤ s + 2; omega) _, by simpa using h.lo, (RS.cellO (j := 0) (by omega) _).trans h.c0, (RS.cellO (by omega) _).trans h.c1, (RS.cellO (by omega) _).trans h.c3, (RS.cellO (by omega) _).trans h.c5, (RS.cellO (by omega) _).trans h.c8, (RS.cellO (by omega) _).trans h.e,
    fun k hk => (RS.cellO (by omega) _).trans (h.x k hk), fun k hk => ?_, (RS.heapO (by omega) _).trans h.b, fun k => (World.frozen?_setCell _ _ _ _).trans (h.f2 k), (World.frozen?_setCell _ _ _ _).trans h.f6, fun k => (World.frozen?_setCell _ _ _ _).trans (h.f7 k)⟩
  by_cases e : k = i
  · subst e
    rw [cell_set_self, h.n k hk]; simp [upd]
  · rw [World.cell?_setCell_other _ _ _ _ (by intro e'; injection e' with _ e'; omega), h.n k hk]
    simp [upd, e]
theorem RS.better {s g c : Nat} {w W : World} {t : RT} (h : RS s g c w W t) : RS s g c w (W.setRow (s + 4) #[.int .i64 (t.n 0), .int .i64 (t.n 1)]) { t with b := t.n } := by
  have cell : ∀ k i, k ≠ 4 → (W.setRow (s + 4) #[.int .i64 (t.n 0), .int .i64 (t.n 1)]).cell? ⟨s + k, i, none⟩ = W.cell? ⟨s + k, i, none⟩ := fun k i hk => World.cell?_of_block (a := ⟨s + k, i, none⟩) (setRow_other _ _ _ _ (by show s + k ≠ s + 4; omega))
  have froz : ∀ k i, k ≠ 4 → (W.setRow (s + 4) #[.int .i64 (t.n 0), .int .i64 (t.n 1)]).frozen? ⟨s + k, i, none⟩ = W.frozen? ⟨s + k, i, none⟩ := fun k i hk => World.frozen?_of_block (a := ⟨s + k, i, none⟩) (setRow_other _ _ _ _ (by show s + k ≠ s + 4; omega))
  refine ⟨?_, by simpa using h.lo, (cell 0 0 (by omega)).trans h.c0, (cell 1 0 (by omega)).trans h.c1, (cell 3 0 (by omega)).trans h.c3, (cell 5 0 (by omega)).trans h.c5, (cell 8 0 (by omega)).trans h.c8, (cell 6 0 (by omega)).trans h.e,
    fun k hk => (cell 7 k (by omega)).trans (h.x k hk), fun k hk => (cell 2 k (by omega)).trans (h.n k hk), setRow_heap _ _ _ _ _ _ h.b, fun k => (froz 2 k (by omega)).trans (h.f2 k), (froz 6 0 (by omega)).trans h.f6, fun k => (froz 7 k (by omega)).trans (h.f7 k)⟩
  exact h.be.trans ⟨rfl, rfl, rfl, by simp, fun k hk => setRow_other _ _ _ _ (by omega)⟩
end Go.Proofs.Ytljhocdbfbjpiaa
