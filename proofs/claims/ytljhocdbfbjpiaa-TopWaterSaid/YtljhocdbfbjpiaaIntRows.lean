/-
  Rows of structs whose fields are all ints: n elements of k cells each, the field j of the element i is f i j.
-/
import Derived.Test.YtljhocdbfbjpiaaWalkAid
import Derived.ProofKit
import Derived.OpenShut
import Derived.Deep.Slices
import Derived.Deep.Fields
import Derived.ChangeSame
import Derived.Lib.SmallJoins
import Derived.Deep.AppendLies
import Derived.Laws.AppendOwn
namespace Go.Proofs.Ytljhocdbfbjpiaa
open Go.RowKit

def RI (w : World) (A : Option Addr) (k n : Nat) (f : Nat → Nat → Int) : Prop :=
  0 < n → ∃ b off, A = some ⟨b, off, none⟩ ∧ b < w.heap.size ∧ ∀ i, i < n → ∀ j, j < k → w.cell? ⟨b, off + i * k + j, none⟩ = some (.int .i64 (f i j))
theorem RI.below {w w' : World} {A : Option Addr} {k n : Nat} {f : Nat → Nat → Int} (h : RI w A k n f) (hb : Below w.heap.size w w') : RI w' A k n f := fun hp => by
  obtain ⟨b, off, e, h1, h2⟩ := h hp
  exact ⟨b, off, e, Nat.lt_of_lt_of_le h1 hb.size, fun i hi j hj => (hb.cell (p := ⟨b, off + i * k + j, none⟩) h1).trans (h2 i hi j hj)⟩
theorem RI.at_ {w : World} {A : Option Addr} {k n : Nat} {f : Nat → Nat → Int} (h : RI w A k n f) {i : Nat} (hi : i < n) :
    ∃ b off, A = some ⟨b, off, none⟩ ∧ b < w.heap.size ∧ ∀ j, j < k → w.cell? ⟨b, off + i * k + j, none⟩ = some (.int .i64 (f i j)) := by
  obtain ⟨b, off, e, h1, h2⟩ := h (by omega)
  exact ⟨b, off, e, h1, h2 i hi⟩
theorem RI.congr {w : World} {A : Option Addr} {k n : Nat} {f g : Nat → Nat → Int} (h : RI w A k n f) (e : ∀ i, i < n → ∀ j, j < k → f i j = g i j) : RI w A k n g := fun hp => by
  obtain ⟨b, off, e', h1, h2⟩ := h hp
  exact ⟨b, off, e', h1, fun i hi j hj => by rw [h2 i hi j hj, e i hi j hj]⟩
/-- The cells of an element, and of a row. -/
def elemL (k : Nat) (f : Nat → Int) : List Value := (List.range k).map fun j => .int .i64 (f j)
def flatL (k : Nat) (f : Nat → Nat → Int) : Nat → List Value
  | 0 => []
  | n + 1 => flatL k f n ++ elemL k (f n)
theorem elemL_len (k : Nat) (f : Nat → Int) : (elemL k f).length = k := by simp [elemL]
theorem flatL_len (k : Nat) (f : Nat → Nat → Int) : ∀ n, (flatL k f n).length = n * k
  | 0 => by simp [flatL]
  | n + 1 => by rw [flatL, List.length_append, flatL_len k f n, elemL_len, Nat.add_mul]; omega
theorem flatL_at {k : Nat} {f : Nat → Nat → Int} {j : Nat} (hj : j < k) : ∀ {n i : Nat}, i < n → (flatL k f n)[i * k + j]? = some (.int .i64 (f i j))
  | 0, i, hi => absurd hi (by omega)
  | n + 1, i, hi => by
    rw [flatL]
    by_cases h : i < n
    · have hl : i * k + j < (flatL k f n).length := by
        rw [flatL_len]
        calc i * k + j < i * k + k := by omega
          _ = (i + 1) * k := by rw [Nat.add_mul]; omega
          _ ≤ n * k := Nat.mul_le_mul_right _ h
      rw [List.getElem?_append_left hl]
      exact flatL_at hj h
    · obtain rfl : i = n := by omega
      rw [List.getElem?_append_right (by rw [flatL_len]; omega), flatL_len]
      have e : i * k + j - i * k = j := by omega
      rw [e]
      simp [elemL, hj]
theorem flatL_one (k : Nat) (f : Nat → Nat → Int) : ∀ n, ∀ u ∈ flatL k f n, u.oneCell' = true
  | 0, u, h => absurd h (by simp [flatL])
  | n + 1, u, h => by
    rw [flatL] at h
    rcases List.mem_append.1 h with h | h
    · exact flatL_one k f n u h
    · simp only [elemL, List.mem_map] at h
      obtain ⟨j, _, rfl⟩ := h
      rfl
theorem flatL_congr {k : Nat} {f g : Nat → Nat → Int} : ∀ {n : Nat}, (∀ i, i < n → ∀ j, j < k → f i j = g i j) → flatL k f n = flatL k g n
  | 0, _ => rfl
  | n + 1, h => by
    rw [flatL, flatL, flatL_congr fun i hi => h i (by omega)]
    congr 1
    unfold elemL
    refine List.map_congr_left fun j hj => ?_
    rw [h n (by omega) j (List.mem_range.1 hj)]
/-- What an append or a clone reads. -/
theorem RI.news {w : World} {b off k n : Nat} {f : Nat → Nat → Int} (hk : 0 < k) (h : RI w (some ⟨b, off, none⟩) k n f) : ∀ j u, (flatL k f n)[j]? = some u → w.cell? ((⟨b, off, none⟩ : Addr).add j) = some u := fun j u hu => by
  have hl : j < n * k := by have := (List.getElem?_eq_some_iff.1 hu).1; rwa [flatL_len] at this
  have hp : 0 < n := by
    rcases Nat.eq_zero_or_pos n with h0 | h0
    · subst h0; omega
    · exact h0
  obtain ⟨b', off', e, h1, h2⟩ := h hp
  injection e with e
  injection e with e1 e2
  subst e1 e2
  have hi : j / k < n := (Nat.div_lt_iff_lt_mul hk).2 hl
  have hm : j % k < k := Nat.mod_lt _ hk
  have ej : j / k * k + j % k = j := by rw [Nat.mul_comm]; exact Nat.div_add_mod j k
  have hf := flatL_at (f := f) hm hi
  rw [ej, hu] at hf
  injection hf with hf
  rw [Go.WideShapes.add_plain, hf]
  have := h2 (j / k) hi (j % k) hm
  rw [Nat.add_assoc, ej] at this
  exact this
/-- What a row of one's own holds. -/
theorem RI.of_owns {w : World} {base n k : Nat} {e : TypeId} {A : Option Addr} {cap : Nat} {f : Nat → Nat → Int} (h : w.ownsRow base e k (.slice A n cap) n (flatL k f n)) : RI w A k n f := fun hp => by
  rcases h.2 with ⟨_, h0⟩ | ⟨g, c, cur, hv, hb, hg, hr⟩
  · omega
  · injection hv with hv
    subst hv
    have hc := h.cells (g := g) rfl
    have hlt := h.lt g rfl
    refine ⟨g, 0, rfl, hlt.2, fun i hi j hj => ?_⟩
    have := hc (i * k + j) _ (flatL_at hj hi)
    rw [Go.WideShapes.add_plain] at this
    rw [Nat.zero_add] at this ⊢
    exact this

section
open Go.WideShapes Go.ChangeShapes Go.Deep Go.Joins
variable {H : Type} {enc : TypeId × Value → H} {P : Program} {w : World} {base : Nat} {held : Bool}
theorem open_slice_cells {spare : Nat → Bool} {t e : TypeId} {fs : Array Field} {fuel : Nat} {cs : List Value} {x : DataW H × List MemPlace} (ht : P.underlying t = some (.slice e)) (he : P.underlying e = some (.struct fs))
    (hone : oneCellFields P fs = true) (hC : P.cellsOf e = fs.size) (h : DataW.trod enc P w base spare held fuel t cs = some x) :
    (cs = [.slice none 0 0] ∧ x = (.nil, [])) ∨
    ∃ (a : Addr) (len cap m : Nat) (D : Nat → DataW H) (Pl : Nat → List MemPlace), cs = [.slice (some a) len cap] ∧ base ≤ a.block ∧ len ≤ cap ∧ cap ≤ maxLen ∧ m = (if spare a.block then cap else len) ∧
      x = (.slice ((List.range len).map D) ((List.range (m - len)).map fun j => D (len + j)), MemPlace.row a (m * fs.size) ++ (List.range m).flatMap Pl) ∧
      ∀ i, i < m → ∃ (ys : List (DataW H × List MemPlace)) (n : Nat), D i = .agg (ys.map (·.1)) ∧ Pl i = ys.flatMap (·.2) ∧ ys.length = fs.size ∧
        ∀ (j : Nat) (f : Field), fs[j]? = some f → ∃ (v : Value) (y : DataW H × List MemPlace), w.cell? (a.add (i * fs.size + j)) = some v ∧ ys[j]? = some y ∧ DataW.trod enc P w base spare held n f.type [v] = some y := by
  rcases open_slice ht h with h0 | ⟨a, len, cap, m, n, D, Pl, hcs, hb, hl, hm, hmm, hx, hi⟩
  · exact .inl h0
  · refine .inr ⟨a, len, cap, m, D, Pl, hcs, hb, hl, hm, hmm, by rw [hC] at hx; exact hx, fun i him => ?_⟩
    obtain ⟨cs', hc, ht'⟩ := hi i him
    rw [hC] at hc
    obtain ⟨ys, n', hn', hy, hlen, hyl, hf⟩ := DataW.trod_struct he ht'
    obtain ⟨_, hcl, hat⟩ := World.cells?_some hc
    simp only [Prod.mk.injEq] at hy
    refine ⟨ys, n', hy.1, hy.2, hyl, fun j f hj => ?_⟩
    obtain ⟨ho, hk⟩ := hone_of hone j f hj
    have hjl : j < fs.size := (Array.getElem?_eq_some_iff.1 hj).1
    have hcell := hat j hjl
    have hv : cs'[j]? = some (cs'[j]'(by omega)) := List.getElem?_eq_getElem (by omega)
    have h1 := hf j f hj
    rw [ho, hk] at h1
    have hone' : (cs'.drop j).take 1 = [cs'[j]'(by omega)] := by
      rw [List.drop_eq_getElem_cons (by omega)]
      rfl
    rw [hone'] at h1
    have hys : ys[j]? = some (ys[j]'(by omega)) := List.getElem?_eq_getElem (by omega)
    refine ⟨_, _, ?_, hys, h1.trans hys⟩
    rw [← Go.Deep.add_add, hcell, hv]
/-- A slice of such structs that came in. -/
theorem read_row {t e : TypeId} {fs : Array Field} {fuel : Nat} {v : Value} {x : DataW H × List MemPlace} {sp : Nat → Bool}
    (ht : P.underlying t = some (.slice e)) (he : P.underlying e = some (.struct fs)) (hone : oneCellFields P fs = true) (hC : P.cellsOf e = fs.size) (hz : 0 < fs.size) (hi64 : ∀ (j : Nat) (f : Field), fs[j]? = some f → P.underlying f.type = some (.int .i64))
    (h : DataW.trod enc P w base sp held fuel t [v] = some x) :
    ∃ (A : Option Addr) (n c : Nat) (f : Nat → Nat → Int), v = .slice A n c ∧ n ≤ c ∧ RI w A fs.size n f ∧ ∀ i, i < n → ∀ j, j < fs.size → (Lit.int .i64 (f i j)).wf = true := by
  rcases open_slice_cells ht he hone hC h with ⟨hcs, _⟩ | ⟨a, len, cap, m, D, Pl, hcs, _, hl, hm, hmm, _, hi⟩
  · have hv : v = .slice none 0 0 := by simpa using hcs
    exact ⟨none, 0, 0, fun _ _ => 0, hv, by omega, fun hp => absurd hp (by omega), fun i hi => absurd hi (by omega)⟩
  · have hv : v = .slice (some a) len cap := by simpa using hcs
    have hlm : len ≤ m := by rw [hmm]; split <;> omega
    have hcell : ∀ i, i < len → ∀ j, j < fs.size → ∃ z : Int, w.cell? (a.add (i * fs.size + j)) = some (.int .i64 z) ∧ (Lit.int .i64 z).wf = true := by
      intro i hil j hj
      obtain ⟨ys, n, _, _, _, hf⟩ := hi i (by omega)
      have hfj : fs[j]? = some fs[j] := Array.getElem?_eq_getElem hj
      obtain ⟨v0, y0, c0, _, t0⟩ := hf j fs[j] hfj
      obtain ⟨n0, e0, _, hw⟩ := DataW.trod_int (hi64 j fs[j] hfj) t0
      have e0' : v0 = .int .i64 n0 := by simpa using e0
      subst e0'
      exact ⟨n0, c0, hw⟩
    obtain ⟨f, hf⟩ : ∃ f : Nat → Nat → Int, ∀ i, i < len → ∀ j, j < fs.size → w.cell? (a.add (i * fs.size + j)) = some (.int .i64 (f i j)) ∧ (Lit.int .i64 (f i j)).wf = true := by
      refine ⟨fun i j => if h : i < len ∧ j < fs.size then (hcell i h.1 j h.2).choose else 0, fun i hi j hj => ?_⟩
      dsimp only
      rw [dif_pos ⟨hi, hj⟩]
      exact (hcell i hi j hj).choose_spec
    refine ⟨some a, len, cap, f, hv, hl, fun hp => ?_, fun i hi j hj => (hf i hi j hj).2⟩
    obtain ⟨b, off, spot⟩ := a
    have hspot : spot = none := by
      have h1 := (hf 0 hp 0 hz).1
      simpa [Addr.add] using World.cell?_spot h1
    subst hspot
    refine ⟨b, off, rfl, ?_, fun i hil j hj => ?_⟩
    · have h1 := (hf 0 hp 0 hz).1
      rw [Go.WideShapes.add_plain] at h1
      exact World.block_lt_of_cell? w _ h1
    · have h1 := (hf i hil j hj).1
      rw [Go.WideShapes.add_plain] at h1
      rw [Nat.add_assoc]
      exact h1
end
end Go.Proofs.Ytljhocdbfbjpiaa
