/-
  A slice of points that came in, as the walks want them.
-/
import Derived.Test.YtcfikdoejmgejaaDoorPtsWalkA
import Derived.Deep.Slices
import Derived.Deep.Fields
import Derived.ChangeSame
import Derived.Lib.SmallJoins
namespace Go.Proofs.YtcfikdoejmgejaaDoor
open Go.RowKit Go.WideShapes Go.ChangeShapes Go.Deep Go.Joins

section
variable {H : Type} {enc : TypeId × Value → H} {P : Program} {w : World} {base : Nat} {held : Bool}
theorem open_slice_fields {spare : Nat → Bool} {t e : TypeId} {fs : Array Field} {fuel : Nat} {cs : List Value} {x : DataW H × List MemPlace} (ht : P.underlying t = some (.slice e)) (he : P.underlying e = some (.struct fs))
    (hone : oneCellFields P fs = true) (hC : P.cellsOf e = fs.size) (h : DataW.trod enc P w base spare held fuel t cs = some x) :
    (cs = [.slice none 0 0] ∧ x = (.nil, [])) ∨
    ∃ (a : Addr) (len cap m : Nat) (D : Nat → DataW H) (Pl : Nat → List MemPlace), cs = [.slice (some a) len cap] ∧ base ≤ a.block ∧ len ≤ cap ∧ cap ≤ maxLen ∧ m = (if spare a.block then cap else len) ∧
      x = (.slice ((List.range len).map D) ((List.range (m - len)).map fun j => D (len + j)), MemPlace.row a (m * fs.size) ++ (List.range m).flatMap Pl) ∧
      ∀ i, i < m → ∃ (ys : List (DataW H × List MemPlace)) (n : Nat), D i = .agg (ys.map (·.1)) ∧ Pl i = ys.flatMap (·.2) ∧ ys.length = fs.size ∧
        ∀ (j : Nat) (f : Field), fs[j]? = some f → ∃ (v : Value) (y : DataW H × List MemPlace), w.cell? (a.add (i * fs.size + j)) = some v ∧ ys[j]? = some y ∧ DataW.trod enc P w base spare held n f.type [v] = some y := by
  rcases open_slice ht h with h0 | ⟨a, len, cap, m, n, D, Pl, hcs, hb, hl, hm, hmm, hx, hi⟩
  · exact .inl h0
  · refine .inr ⟨a, len, cap, m, D, Pl, hcs, hb, hl, hm, hmm, by rw [hC] at hx; exact hx, fun i him => ?_⟩
    obtain ⟨cs', hc, ht'⟩ := hi i him
    rw [hC] at hc
    obtain ⟨ys, n', hn', hy, hlen, hyl, hf⟩ := DataW.trod_struct he ht'
    obtain ⟨_, hcl, hat⟩ := World.cells?_some hc
    simp only [Prod.mk.injEq] at hy
    refine ⟨ys, n', hy.1, hy.2, hyl, fun j f hj => ?_⟩
    obtain ⟨ho, hk⟩ := hone_of hone j f hj
    have hjl : j < fs.size := (Array.getElem?_eq_some_iff.1 hj).1
    have hcell := hat j hjl
    have hv : cs'[j]? = some (cs'[j]'(by omega)) := List.getElem?_eq_getElem (by omega)
    have h1 := hf j f hj
    rw [ho, hk] at h1
    have hone' : (cs'.drop j).take 1 = [cs'[j]'(by omega)] := by
      rw [List.drop_eq_getElem_cons (by omega)]
      rfl
    rw [hone'] at h1
    have hys : ys[j]? = some (ys[j]'(by omega)) := List.getElem?_eq_getElem (by omega)
    refine ⟨_, _, ?_, hys, h1.trans hys⟩
    rw [← Go.Deep.add_add, hcell, hv]

/-- A list out of its cells. -/
theorem pts_of {n : Nat} {b off : Nat} (h : ∀ i, i < n → ∃ z : Int × Int, w.cell? ⟨b, off + i * 2, none⟩ = some (.int .i64 z.1) ∧ w.cell? ⟨b, off + i * 2 + 1, none⟩ = some (.int .i64 z.2)) :
    ∃ ps : List (Int × Int), ps.length = n ∧ ∀ i, i < n → w.cell? ⟨b, off + i * 2, none⟩ = some (.int .i64 (Fix.px ps i)) ∧ w.cell? ⟨b, off + i * 2 + 1, none⟩ = some (.int .i64 (Fix.py ps i)) := by
  induction n with
  | zero => exact ⟨[], rfl, fun i hi => absurd hi (by omega)⟩
  | succ n ih =>
    obtain ⟨ps, hl, hp⟩ := ih fun i hi => h i (by omega)
    obtain ⟨z, hz1, hz2⟩ := h n (by omega)
    refine ⟨ps ++ [z], by simp [hl], fun i hi => ?_⟩
    rcases Nat.lt_or_ge i n with hin | hin
    · have := hp i hin
      unfold Fix.px Fix.py at *
      rw [List.getElem?_append_left (by omega)]
      exact this
    · obtain rfl : i = n := by omega
      unfold Fix.px Fix.py
      rw [List.getElem?_append_right (by omega), hl, Nat.sub_self]
      exact ⟨hz1, hz2⟩

theorem read_points {t e : TypeId} {f0 f1 : Field} {fuel : Nat} {v : Value} {x : DataW H × List MemPlace} {sp : Nat → Bool}
    (ht : P.underlying t = some (.slice e)) (he : P.underlying e = some (.struct #[f0, f1])) (hone : oneCellFields P #[f0, f1] = true) (hC : P.cellsOf e = 2)
    (h0 : P.underlying f0.type = some (.int .i64)) (h1 : P.underlying f1.type = some (.int .i64)) (h : DataW.trod enc P w base sp held fuel t [v] = some x) :
    ∃ (A : Option Addr) (c : Nat) (ps : List (Int × Int)), v = .slice A ps.length c ∧ RdP w A ps := by
  rcases open_slice_fields ht he hone hC h with ⟨hcs, _⟩ | ⟨a, len, cap, m, D, Pl, hcs, _, hl, hm, hmm, _, hi⟩
  · have hv : v = .slice none 0 0 := by simpa using hcs
    exact ⟨none, 0, [], hv, fun hp => absurd hp (by simp)⟩
  · have hv : v = .slice (some a) len cap := by simpa using hcs
    have hlm : len ≤ m := by rw [hmm]; split <;> omega
    have hcell : ∀ i, i < len → ∃ z : Int × Int, w.cell? (a.add (i * 2 + 0)) = some (.int .i64 z.1) ∧ w.cell? (a.add (i * 2 + 1)) = some (.int .i64 z.2) := by
      intro i hil
      obtain ⟨ys, n, _, _, _, hf⟩ := hi i (by omega)
      obtain ⟨v0, y0, c0, _, t0⟩ := hf 0 f0 rfl
      obtain ⟨v1, y1, c1, _, t1⟩ := hf 1 f1 rfl
      obtain ⟨n0, e0, _, _⟩ := DataW.trod_int h0 t0
      obtain ⟨n1, e1, _, _⟩ := DataW.trod_int h1 t1
      have e0' : v0 = .int .i64 n0 := by simpa using e0
      have e1' : v1 = .int .i64 n1 := by simpa using e1
      subst e0' e1'
      exact ⟨(n0, n1), c0, c1⟩
    rcases Nat.eq_zero_or_pos len with hz | hz
    · subst hz
      exact ⟨some a, cap, [], hv, fun hp => absurd hp (by simp)⟩
    · obtain ⟨b, off, spot⟩ := a
      have hspot : spot = none := by
        obtain ⟨z, hz1, _⟩ := hcell 0 hz
        simpa [Addr.add] using World.cell?_spot hz1
      subst hspot
      obtain ⟨ps, hpl, hp⟩ := pts_of (w := w) (n := len) (b := b) (off := off) fun i hil => by
        obtain ⟨z, hz1, hz2⟩ := hcell i hil
        rw [Go.WideShapes.add_plain] at hz1 hz2
        exact ⟨z, hz1, by rw [Nat.add_assoc]; exact hz2⟩
      subst hpl
      exact ⟨_, cap, ps, hv, fun _ => ⟨b, off, rfl, World.block_lt_of_cell? w _ (hp 0 hz).1, hp⟩⟩

end
theorem wf_both {x : Int} (h : (Lit.int .i64 x).wf = true) : -9223372036854775808 ≤ x ∧ x ≤ 9223372036854775807 := by
  simp only [Lit.wf, Bool.and_eq_true, decide_eq_true_eq] at h
  have h1 : IntKind.i64.min = -9223372036854775808 := by decide
  have h2 : IntKind.i64.max = 9223372036854775807 := by decide
  omega
theorem wf_lo {x : Int} (h : (Lit.int .i64 x).wf = true) : -9223372036854775808 ≤ x := (wf_both h).1
theorem wf_hi {x : Int} (h : (Lit.int .i64 x).wf = true) : x ≤ 9223372036854775807 := (wf_both h).2
end Go.Proofs.YtcfikdoejmgejaaDoor
