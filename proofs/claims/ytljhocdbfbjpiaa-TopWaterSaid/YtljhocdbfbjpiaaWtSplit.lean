/-
  An amount divided in proportion to weights: it comes back, each part is small; of one weight, the part is the amount.
-/
import Derived.Test.YtljhocdbfbjpiaaWtSort
import Derived.Test.YtljhocdbfbjpiaaWtPumpC
import Derived.Deep.OwnRows
import Derived.Laws.OwnMore
namespace Go.Proofs.Ytljhocdbfbjpiaa
open Go.RowKit

def sumW (W : Nat → Nat) : Nat → Nat
  | 0 => 0
  | n + 1 => sumW W n + W n
def wl (W : Nat → Nat) (n : Nat) : List Int := (List.range n).map fun i => ((W i : Nat) : Int)
theorem wl_len (W : Nat → Nat) (n : Nat) : (wl W n).length = n := by simp [wl]
theorem wl_at {W : Nat → Nat} {n i : Nat} (h : i < n) : li (wl W n) i = ((W i : Nat) : Int) := by simp [li, wl, h]
theorem sumW_cast (W : Nat → Nat) : ∀ n, sumN (fun i => ((W i : Nat) : Int)) n = ((sumW W n : Nat) : Int)
  | 0 => rfl
  | n + 1 => by rw [sumN, sumW_cast W n, sumW]; simp
theorem sumW_le {W : Nat → Nat} {n i : Nat} (h : i < n) : W i ≤ sumW W n := by
  induction n with
  | zero => omega
  | succ n ih =>
    rw [sumW]
    by_cases e : i = n
    · subst e; omega
    · have := ih (by omega); omega
theorem sumW_bd {W : Nat → Nat} {M : Nat} : ∀ {n : Nat}, (∀ i, i < n → W i ≤ M) → sumW W n ≤ n * M
  | 0, _ => by simp [sumW]
  | n + 1, h => by
    have := sumW_bd (n := n) fun i hi => h i (by omega)
    have := h n (by omega)
    rw [sumW, Nat.add_mul]; omega
theorem split_sum (a T : Nat) (W : Nat → Nat) : ∀ n, a * sumW W n = T * sumW (fun i => a * W i / T) n + sumW (fun i => a * W i % T) n
  | 0 => by simp [sumW]
  | n + 1 => by
    rw [sumW, sumW, sumW, Nat.mul_add, split_sum a T W n, Nat.mul_add]
    have := Nat.div_add_mod (a * W n) T
    omega
theorem sumR_lt {T : Nat} (hT : 0 < T) (R : Nat → Nat) (hR : ∀ i, R i < T) : ∀ n, 0 < n → sumW R n < n * T
  | 0, h => by omega
  | 1, _ => by simp [sumW]; exact hR 0
  | n + 2, _ => by
    have h1 := sumR_lt hT R hR (n + 1) (by omega)
    have h2 := hR (n + 1)
    rw [sumW, show (n + 2) * T = (n + 1) * T + T by rw [← Nat.succ_mul]]
    omega
theorem split_left {a n : Nat} {W : Nat → Nat} (hT : 0 < sumW W n) (hn : 0 < n) : sumW (fun i => a * W i / sumW W n) n ≤ a ∧ a < sumW (fun i => a * W i / sumW W n) n + n := by
  have h := split_sum a (sumW W n) W n
  have hr := sumR_lt hT (fun i => a * W i % sumW W n) (fun i => Nat.mod_lt _ hT) n hn
  generalize sumW (fun i => a * W i / sumW W n) n = Q at *
  generalize sumW (fun i => a * W i % sumW W n) n = R at *
  generalize sumW W n = T at *
  constructor
  · refine Nat.le_of_mul_le_mul_right (c := T) ?_ hT
    rw [Nat.mul_comm Q T]; omega
  · refine Nat.lt_of_mul_lt_mul_right (a := T) ?_
    rw [Nat.add_mul, Nat.mul_comm Q T]; omega
theorem made_at (z : Value) (n : Nat) (t : TypeId) (w : World) {k : Nat} (hk : k < n) : (w.alloc (.cells (madeCells #[z] n) t)).cell? ⟨w.heap.size, k, none⟩ = some z := by
  have h := heap_alloc_new w (.cells (madeCells #[z] n) t)
  simp only [World.cell?, h]
  simp [madeCells, hk, Nat.mod_one]
theorem made_fr (z : Value) (n : Nat) (t : TypeId) (w : World) (k : Nat) : (w.alloc (.cells (madeCells #[z] n) t)).frozen? ⟨w.heap.size, k, none⟩ = false := by
  have h := heap_alloc_new w (.cells (madeCells #[z] n) t)
  simp only [World.frozen?, h]
  simp
theorem make_ints (n : Nat) (hn : n ≤ 1000) (w : World) : (Instr.makeSlice 28 (.int .i64 (n : Int)) (.int .i64 (n : Int))).run Try.prog w = .ok (.slice (some ⟨w.heap.size, 0, none⟩) n n) (w.alloc (.cells (madeCells #[.int .i64 0] n) 3)) :=
  run_make_row' 28 3 (.int .i64 0) 8 Try.underlying28 int_info rfl .i64 .i64 n (by omega) (by omega) w
def up (P : Nat → Int) (i : Nat) (x : Int) : Nat → Int := fun j => if j = i then x else P j
/-- The rows of a split: the parts, the rests, the order. -/
structure SW (s n : Nat) (w : World) (P R O : Nat → Int) : Prop where
  z : w.heap.size = s + 4
  p : ∀ i, i < n → w.cell? ⟨s, i, none⟩ = some (.int .i64 (P i))
  r : ∀ i, i < n → w.cell? ⟨s + 1, i, none⟩ = some (.int .i64 (R i))
  v : w.cell? ⟨s + 2, 0, none⟩ = some (.slice (some ⟨s + 1, 0, none⟩) n n)
  o : ∀ i, i < n → w.cell? ⟨s + 3, i, none⟩ = some (.int .i64 (O i))
  f : ∀ b i, s ≤ b → b < s + 4 → w.frozen? ⟨b, i, none⟩ = false
theorem SW.drewN {s n : Nat} {w : World} {P R O : Nat → Int} (h : SW s n w P R O) (q : Nat) : SW s n (w.drewN q) P R O := ⟨h.z, h.p, h.r, h.v, h.o, h.f⟩
theorem SW.drew {s n : Nat} {w : World} {P R O : Nat → Int} (h : SW s n w P R O) : SW s n w.drew P R O := ⟨h.z, h.p, h.r, h.v, h.o, h.f⟩
theorem row_set {w : World} {b n : Nat} {P : Nat → Int} (h : ∀ i, i < n → w.cell? ⟨b, i, none⟩ = some (.int .i64 (P i))) (k : Nat) (x : Int) : ∀ i, i < n → (w.setCell ⟨b, k, none⟩ (.int .i64 x)).cell? ⟨b, i, none⟩ = some (.int .i64 (up P k x i)) := fun i hi => by
  by_cases e : i = k
  · subst e
    simp [cell_set_self, h i hi, up]
  · rw [World.cell?_setCell_other _ _ _ _ (by intro e'; injection e' with _ e'; omega), h i hi, up, if_neg e]
theorem row_far {w : World} {b c n : Nat} {P : Nat → Int} (h : ∀ i, i < n → w.cell? ⟨b, i, none⟩ = some (.int .i64 (P i))) (hne : c ≠ b) (k : Nat) (x : Value) : ∀ i, i < n → (w.setCell ⟨c, k, none⟩ x).cell? ⟨b, i, none⟩ = some (.int .i64 (P i)) := fun i hi => by
  rw [World.cell?_setCell_other _ _ _ _ (by intro e'; injection e' with e' _; omega), h i hi]
theorem SW.setP {s n : Nat} {w : World} {P R O : Nat → Int} (h : SW s n w P R O) (k : Nat) (x : Int) : SW s n (w.setCell ⟨s, k, none⟩ (.int .i64 x)) (up P k x) R O :=
  ⟨by simpa using h.z, row_set h.p k x, row_far h.r (by omega) _ _, (World.cell?_setCell_other _ _ _ _ (by intro e; injection e with e _; omega)).trans h.v, row_far h.o (by omega) _ _, fun b i h1 h2 => (World.frozen?_setCell _ _ _ _).trans (h.f b i h1 h2)⟩
theorem SW.setR {s n : Nat} {w : World} {P R O : Nat → Int} (h : SW s n w P R O) (k : Nat) (x : Int) : SW s n (w.setCell ⟨s + 1, k, none⟩ (.int .i64 x)) P (up R k x) O :=
  ⟨by simpa using h.z, row_far h.p (by omega) _ _, row_set h.r k x, (World.cell?_setCell_other _ _ _ _ (by intro e; injection e with e _; omega)).trans h.v, row_far h.o (by omega) _ _, fun b i h1 h2 => (World.frozen?_setCell _ _ _ _).trans (h.f b i h1 h2)⟩
theorem SW.setO {s n : Nat} {w : World} {P R O : Nat → Int} (h : SW s n w P R O) (k : Nat) (x : Int) : SW s n (w.setCell ⟨s + 3, k, none⟩ (.int .i64 x)) P R (up O k x) :=
  ⟨by simpa using h.z, row_far h.p (by omega) _ _, row_far h.r (by omega) _ _, (World.cell?_setCell_other _ _ _ _ (by intro e; injection e with e _; omega)).trans h.v, row_set h.o k x, fun b i h1 h2 => (World.frozen?_setCell _ _ _ _).trans (h.f b i h1 h2)⟩
theorem SW.start (w : World) (n : Nat) (_hn : 0 < n) :
    SW w.heap.size n ((((w.alloc (.cells (madeCells #[.int .i64 0] n) 3)).alloc (.cells (madeCells #[.int .i64 0] n) 3)).alloc (.cells #[.slice (some ⟨w.heap.size + 1, 0, none⟩) n n] 28)).alloc (.cells (madeCells #[.int .i64 0] n) 3)) (fun _ => 0) (fun _ => 0) (fun _ => 0) := by
  have b1 := Joins.below_alloc1 (w.alloc (.cells (madeCells #[.int .i64 0] n) 3)) (.cells (madeCells #[.int .i64 0] n) 3)
  have b2 := Joins.below_alloc1 ((w.alloc (.cells (madeCells #[.int .i64 0] n) 3)).alloc (.cells (madeCells #[.int .i64 0] n) 3)) (.cells #[.slice (some ⟨w.heap.size + 1, 0, none⟩) n n] 28)
  have b3 := Joins.below_alloc1 (((w.alloc (.cells (madeCells #[.int .i64 0] n) 3)).alloc (.cells (madeCells #[.int .i64 0] n) 3)).alloc (.cells #[.slice (some ⟨w.heap.size + 1, 0, none⟩) n n] 28)) (.cells (madeCells #[.int .i64 0] n) 3)
  refine ⟨by simp, fun i hi => ?_, fun i hi => ?_, ?_, fun i hi => ?_, fun b i h1 h2 => ?_⟩
  · rw [b3.cell (p := ⟨w.heap.size, i, none⟩) (by simp; omega), b2.cell (p := ⟨w.heap.size, i, none⟩) (by simp; omega), b1.cell (p := ⟨w.heap.size, i, none⟩) (by simp)]
    exact made_at _ _ _ _ hi
  · rw [b3.cell (p := ⟨w.heap.size + 1, i, none⟩) (by simp), b2.cell (p := ⟨w.heap.size + 1, i, none⟩) (by simp)]
    have h := made_at (.int .i64 0) n 3 (w.alloc (.cells (madeCells #[.int .i64 0] n) 3)) hi
    simpa using h
  · rw [b3.cell (p := ⟨w.heap.size + 2, 0, none⟩) (by simp)]
    simp [go_sem]
  · have h := made_at (.int .i64 0) n 3 (((w.alloc (.cells (madeCells #[.int .i64 0] n) 3)).alloc (.cells (madeCells #[.int .i64 0] n) 3)).alloc (.cells #[.slice (some ⟨w.heap.size + 1, 0, none⟩) n n] 28)) hi
    simpa using h
  · obtain rfl | rfl | rfl | rfl : b = w.heap.size ∨ b = w.heap.size + 1 ∨ b = w.heap.size + 2 ∨ b = w.heap.size + 3 := by omega
    · rw [b3.frozen (p := ⟨w.heap.size, i, none⟩) (by simp; omega), b2.frozen (p := ⟨w.heap.size, i, none⟩) (by simp; omega), b1.frozen (p := ⟨w.heap.size, i, none⟩) (by simp)]
      exact made_fr _ _ _ _ _
    · rw [b3.frozen (p := ⟨w.heap.size + 1, i, none⟩) (by simp), b2.frozen (p := ⟨w.heap.size + 1, i, none⟩) (by simp)]
      simp [go_sem]
    · rw [b3.frozen (p := ⟨w.heap.size + 2, i, none⟩) (by simp)]
      simp [go_sem]
    · have h := made_fr (.int .i64 0) n 3 (((w.alloc (.cells (madeCells #[.int .i64 0] n) 3)).alloc (.cells (madeCells #[.int .i64 0] n) 3)).alloc (.cells #[.slice (some ⟨w.heap.size + 1, 0, none⟩) n n] 28)) i
      simpa using h
end Go.Proofs.Ytljhocdbfbjpiaa
