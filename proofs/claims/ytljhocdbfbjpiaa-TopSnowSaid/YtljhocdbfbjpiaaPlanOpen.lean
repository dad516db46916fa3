/-
  Slices of guns and of hours, and plans, that came in, as the walks want them.
-/
import Derived.Test.YtljhocdbfbjpiaaPlanRead
import Derived.Test.YtljhocdbfbjpiaaSliceOpen
import Derived.Deep.Slices
import Derived.Deep.Fields
import Derived.ChangeSame
import Derived.Lib.SmallJoins
namespace Go.Proofs.Ytljhocdbfbjpiaa
open Go.RowKit Go.WideShapes Go.ChangeShapes Go.Deep Go.Joins

section
variable {H : Type} {enc : TypeId × Value → H} {P : Program} {w : World} {base : Nat} {held : Bool}
theorem open_slice_fields {spare : Nat → Bool} {t e : TypeId} {fs : Array Field} {fuel : Nat} {cs : List Value} {x : DataW H × List MemPlace} (ht : P.underlying t = some (.slice e)) (he : P.underlying e = some (.struct fs))
    (hone : oneCellFields P fs = true) (hC : P.cellsOf e = fs.size) (h : DataW.trod enc P w base spare held fuel t cs = some x) :
    (cs = [.slice none 0 0] ∧ x = (.nil, [])) ∨
    ∃ (a : Addr) (len cap m : Nat) (D : Nat → DataW H) (Pl : Nat → List MemPlace), cs = [.slice (some a) len cap] ∧ base ≤ a.block ∧ len ≤ cap ∧ cap ≤ maxLen ∧ m = (if spare a.block then cap else len) ∧
      x = (.slice ((List.range len).map D) ((List.range (m - len)).map fun j => D (len + j)), MemPlace.row a (m * fs.size) ++ (List.range m).flatMap Pl) ∧
      ∀ i, i < m → ∃ (ys : List (DataW H × List MemPlace)) (n : Nat), D i = .agg (ys.map (·.1)) ∧ Pl i = ys.flatMap (·.2) ∧ ys.length = fs.size ∧
        ∀ (j : Nat) (f : Field), fs[j]? = some f → ∃ (v : Value) (y : DataW H × List MemPlace), w.cell? (a.add (i * fs.size + j)) = some v ∧ ys[j]? = some y ∧ DataW.trod enc P w base spare held n f.type [v] = some y := by
  rcases open_slice ht h with h0 | ⟨a, len, cap, m, n, D, Pl, hcs, hb, hl, hm, hmm, hx, hi⟩
  · exact .inl h0
  · refine .inr ⟨a, len, cap, m, D, Pl, hcs, hb, hl, hm, hmm, by rw [hC] at hx; exact hx, fun i him => ?_⟩
    obtain ⟨cs', hc, ht'⟩ := hi i him
    rw [hC] at hc
    obtain ⟨ys, n', hn', hy, hlen, hyl, hf⟩ := DataW.trod_struct he ht'
    obtain ⟨_, hcl, hat⟩ := World.cells?_some hc
    simp only [Prod.mk.injEq] at hy
    refine ⟨ys, n', hy.1, hy.2, hyl, fun j f hj => ?_⟩
    obtain ⟨ho, hk⟩ := hone_of hone j f hj
    have hjl : j < fs.size := (Array.getElem?_eq_some_iff.1 hj).1
    have hcell := hat j hjl
    have hv : cs'[j]? = some (cs'[j]'(by omega)) := List.getElem?_eq_getElem (by omega)
    have h1 := hf j f hj
    rw [ho, hk] at h1
    have hone' : (cs'.drop j).take 1 = [cs'[j]'(by omega)] := by
      rw [List.drop_eq_getElem_cons (by omega)]
      rfl
    rw [hone'] at h1
    have hys : ys[j]? = some (ys[j]'(by omega)) := List.getElem?_eq_getElem (by omega)
    refine ⟨_, _, ?_, hys, h1.trans hys⟩
    rw [← Go.Deep.add_add, hcell, hv]


/-- A list out of its parts. -/
theorem list_of {α : Type} {n : Nat} {Q : Nat → α → Prop} (h : ∀ i, i < n → ∃ z, Q i z) : ∃ ps : List α, ps.length = n ∧ ∀ i, i < n → ∃ z, ps[i]? = some z ∧ Q i z := by
  induction n with
  | zero => exact ⟨[], rfl, fun i hi => absurd hi (by omega)⟩
  | succ n ih =>
    obtain ⟨ps, hl, hp⟩ := ih fun i hi => h i (by omega)
    obtain ⟨z, hz⟩ := h n (by omega)
    refine ⟨ps ++ [z], by simp [hl], fun i hi => ?_⟩
    rcases Nat.lt_or_ge i n with hin | hin
    · obtain ⟨y, h1, h2⟩ := hp i hin
      exact ⟨y, by rw [List.getElem?_append_left (by omega)]; exact h1, h2⟩
    · obtain rfl : i = n := by omega
      exact ⟨z, by rw [List.getElem?_append_right (by omega), hl, Nat.sub_self]; rfl, hz⟩
theorem read_guns {t e : TypeId} {f0 f1 f2 f3 : Field} {fuel : Nat} {v : Value} {x : DataW H × List MemPlace} {sp : Nat → Bool}
    (ht : P.underlying t = some (.slice e)) (he : P.underlying e = some (.struct #[f0, f1, f2, f3])) (hone : oneCellFields P #[f0, f1, f2, f3] = true) (hC : P.cellsOf e = 4)
    (h0 : P.underlying f0.type = some (.int .i64)) (h1 : P.underlying f1.type = some (.int .i64)) (h2 : P.underlying f2.type = some (.int .i64)) (h3 : P.underlying f3.type = some (.int .i64)) (h : DataW.trod enc P w base sp held fuel t [v] = some x) :
    ∃ (A : Option Addr) (c : Nat) (gs : List Plan.Gun), v = .slice A gs.length c ∧ RdG w A gs := by
  rcases open_slice_fields ht he hone hC h with ⟨hcs, _⟩ | ⟨a, len, cap, m, D, Pl, hcs, _, hl, hm, hmm, _, hi⟩
  · have hv : v = .slice none 0 0 := by simpa using hcs
    exact ⟨none, 0, [], hv, fun hp => absurd hp (by simp)⟩
  · have hv : v = .slice (some a) len cap := by simpa using hcs
    have hlm : len ≤ m := by rw [hmm]; split <;> omega
    have hcell : ∀ i, i < len → ∃ z : Plan.Gun, w.cell? (a.add (i * 4 + 0)) = some (.int .i64 z.id) ∧ w.cell? (a.add (i * 4 + 1)) = some (.int .i64 z.water) ∧ w.cell? (a.add (i * 4 + 2)) = some (.int .i64 z.power) ∧ w.cell? (a.add (i * 4 + 3)) = some (.int .i64 z.value) := by
      intro i hil
      obtain ⟨ys, n, _, _, _, hf⟩ := hi i (by omega)
      obtain ⟨v0, y0, c0, _, t0⟩ := hf 0 f0 rfl
      obtain ⟨v1, y1, c1, _, t1⟩ := hf 1 f1 rfl
      obtain ⟨v2, y2, c2, _, t2⟩ := hf 2 f2 rfl
      obtain ⟨v3, y3, c3, _, t3⟩ := hf 3 f3 rfl
      obtain ⟨n0, e0, _, _⟩ := DataW.trod_int h0 t0
      obtain ⟨n1, e1, _, _⟩ := DataW.trod_int h1 t1
      obtain ⟨n2, e2, _, _⟩ := DataW.trod_int h2 t2
      obtain ⟨n3, e3, _, _⟩ := DataW.trod_int h3 t3
      have e0' : v0 = .int .i64 n0 := by simpa using e0
      have e1' : v1 = .int .i64 n1 := by simpa using e1
      have e2' : v2 = .int .i64 n2 := by simpa using e2
      have e3' : v3 = .int .i64 n3 := by simpa using e3
      subst e0' e1' e2' e3'
      exact ⟨⟨n0, n1, n2, n3⟩, c0, c1, c2, c3⟩
    rcases Nat.eq_zero_or_pos len with hz | hz
    · subst hz
      exact ⟨some a, cap, [], hv, fun hp => absurd hp (by simp)⟩
    · obtain ⟨b, off, spot⟩ := a
      have hspot : spot = none := by
        obtain ⟨z, hz1, _⟩ := hcell 0 hz
        simpa [Addr.add] using World.cell?_spot hz1
      subst hspot
      obtain ⟨gs, hpl, hp⟩ := list_of hcell
      subst hpl
      refine ⟨_, cap, gs, hv, fun _ => ⟨b, off, rfl, ?_, fun i hil => ?_⟩⟩
      · obtain ⟨z, _, h1, _⟩ := hp 0 hz
        rw [Go.WideShapes.add_plain] at h1
        exact World.block_lt_of_cell? w _ h1
      · obtain ⟨z, hz0, k0, k1, k2, k3⟩ := hp i hil
        rw [Go.WideShapes.add_plain] at k0 k1 k2 k3
        have e : Plan.gAt gs i = z := by simp [Plan.gAt, hz0]
        rw [e]
        exact ⟨k0, by rw [Nat.add_assoc]; exact k1, by rw [Nat.add_assoc]; exact k2, by rw [Nat.add_assoc]; exact k3⟩
theorem read_hours {t e : TypeId} {f0 f1 : Field} {fuel : Nat} {v : Value} {x : DataW H × List MemPlace} {sp : Nat → Bool}
    (ht : P.underlying t = some (.slice e)) (he : P.underlying e = some (.struct #[f0, f1])) (hone : oneCellFields P #[f0, f1] = true) (hC : P.cellsOf e = 2)
    (h0 : P.underlying f0.type = some (.int .i64)) (h1 : P.underlying f1.type = some (.int .i64)) (h : DataW.trod enc P w base sp held fuel t [v] = some x) :
    ∃ (A : Option Addr) (c : Nat) (hs : List Plan.Hour), v = .slice A hs.length c ∧ RdH w A hs := by
  rcases open_slice_fields ht he hone hC h with ⟨hcs, _⟩ | ⟨a, len, cap, m, D, Pl, hcs, _, hl, hm, hmm, _, hi⟩
  · have hv : v = .slice none 0 0 := by simpa using hcs
    exact ⟨none, 0, [], hv, fun hp => absurd hp (by simp)⟩
  · have hv : v = .slice (some a) len cap := by simpa using hcs
    have hlm : len ≤ m := by rw [hmm]; split <;> omega
    have hcell : ∀ i, i < len → ∃ z : Plan.Hour, w.cell? (a.add (i * 2 + 0)) = some (.int .i64 z.power) ∧ w.cell? (a.add (i * 2 + 1)) = some (.int .i64 z.factor) := by
      intro i hil
      obtain ⟨ys, n, _, _, _, hf⟩ := hi i (by omega)
      obtain ⟨v0, y0, c0, _, t0⟩ := hf 0 f0 rfl
      obtain ⟨v1, y1, c1, _, t1⟩ := hf 1 f1 rfl
      obtain ⟨n0, e0, _, _⟩ := DataW.trod_int h0 t0
      obtain ⟨n1, e1, _, _⟩ := DataW.trod_int h1 t1
      have e0' : v0 = .int .i64 n0 := by simpa using e0
      have e1' : v1 = .int .i64 n1 := by simpa using e1
      subst e0' e1'
      exact ⟨⟨n0, n1⟩, c0, c1⟩
    rcases Nat.eq_zero_or_pos len with hz | hz
    · subst hz
      exact ⟨some a, cap, [], hv, fun hp => absurd hp (by simp)⟩
    · obtain ⟨b, off, spot⟩ := a
      have hspot : spot = none := by
        obtain ⟨z, hz1, _⟩ := hcell 0 hz
        simpa [Addr.add] using World.cell?_spot hz1
      subst hspot
      obtain ⟨hs, hpl, hp⟩ := list_of hcell
      subst hpl
      refine ⟨_, cap, hs, hv, fun _ => ⟨b, off, rfl, ?_, fun i hil => ?_⟩⟩
      · obtain ⟨z, _, h1, _⟩ := hp 0 hz
        rw [Go.WideShapes.add_plain] at h1
        exact World.block_lt_of_cell? w _ h1
      · obtain ⟨z, hz0, k0, k1⟩ := hp i hil
        rw [Go.WideShapes.add_plain] at k0 k1
        have e : Plan.hAt hs i = z := by simp [Plan.hAt, hz0]
        rw [e]
        exact ⟨k0, by rw [Nat.add_assoc]; exact k1⟩
end
end Go.Proofs.Ytljhocdbfbjpiaa
