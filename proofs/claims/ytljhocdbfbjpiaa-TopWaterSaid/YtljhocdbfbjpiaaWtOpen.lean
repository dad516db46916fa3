/-
  Systems that came in, as the walks want them.
-/
import Derived.Test.YtljhocdbfbjpiaaSlice
import Derived.ProofKit
import Derived.OpenShut
import Derived.Test.YtljhocdbfbjpiaaPtsWalkA
import Derived.Deep.Slices
import Derived.Deep.Fields
import Derived.ChangeSame
import Derived.Lib.SmallJoins
import Derived.Test.YtljhocdbfbjpiaaWtTop
namespace Go.Proofs.Ytljhocdbfbjpiaa
open Go.RowKit Go.WideShapes Go.ChangeShapes

theorem read_ints {H : Type} {enc : TypeId × Value → H} {P : Program} {w : World} {base : Nat} {held : Bool} {t e : TypeId} {fuel : Nat} {v : Value} {x : DataW H × List MemPlace} {sp : Nat → Bool}
    (ht : P.underlying t = some (.slice e)) (he : P.underlying e = some (.int .i64)) (hc : P.cellsOf e = 1) (h : DataW.trod enc P w base sp held fuel t [v] = some x) :
    ∃ (A : Option Addr) (c : Nat) (xs : List Int), v = .slice A xs.length c ∧ Rd w A xs ∧ xs.length ≤ c ∧ c ≤ maxLen ∧ ∀ n ∈ xs, (Lit.int .i64 n).wf = true := by
  rcases open_ints ht he hc h with ⟨hcs, _⟩ | ⟨a, len, cap, zs, hcs, _, hl, hm, hz, _, hcell, hw⟩
  · have hv : v = .slice none 0 0 := by simpa using hcs
    exact ⟨none, 0, [], hv, Rd.nil _ _, by simp, Nat.zero_le _, by simp⟩
  · have hv : v = .slice (some a) len cap := by simpa using hcs
    have hlz : len ≤ zs.length := by rw [hz]; split <;> omega
    have hlen : (zs.take len).length = len := by rw [List.length_take]; omega
    refine ⟨some a, cap, zs.take len, by rw [hlen]; exact hv, fun hp => ?_, by omega, hm, fun n hn => hw n (List.mem_of_mem_take hn)⟩
    obtain ⟨b, off, rfl, hc'⟩ := ints_at hcell (by omega)
    have h0 := hc' 0 (by omega)
    refine ⟨b, off, rfl, World.block_lt_of_cell? w _ h0, fun i hi => ?_⟩
    have hi' : i < len := by omega
    rw [hc' i (by omega), List.getElem?_take, if_pos hi']
    simp [List.getD]
end Go.Proofs.Ytljhocdbfbjpiaa
namespace Go.Proofs.Ytljhocdbfbjpiaa
open Go.RowKit Go.WideShapes Go.ChangeShapes Go.Deep Go.Joins

section
variable {H : Type} {enc : TypeId × Value → H} {P : Program} {w : World} {base : Nat} {held : Bool}
theorem open_slice_fields {spare : Nat → Bool} {t e : TypeId} {fs : Array Field} {fuel : Nat} {cs : List Value} {x : DataW H × List MemPlace} (ht : P.underlying t = some (.slice e)) (he : P.underlying e = some (.struct fs))
    (hone : oneCellFields P fs = true) (hC : P.cellsOf e = fs.size) (h : DataW.trod enc P w base spare held fuel t cs = some x) :
    (cs = [.slice none 0 0] ∧ x = (.nil, [])) ∨
    ∃ (a : Addr) (len cap m : Nat) (D : Nat → DataW H) (Pl : Nat → List MemPlace), cs = [.slice (some a) len cap] ∧ base ≤ a.block ∧ len ≤ cap ∧ cap ≤ maxLen ∧ m = (if spare a.block then cap else len) ∧
      x = (.slice ((List.range len).map D) ((List.range (m - len)).map fun j => D (len + j)), MemPlace.row a (m * fs.size) ++ (List.range m).flatMap Pl) ∧
      ∀ i, i < m → ∃ (ys : List (DataW H × List MemPlace)) (n : Nat), D i = .agg (ys.map (·.1)) ∧ Pl i = ys.flatMap (·.2) ∧ ys.length = fs.size ∧
        ∀ (j : Nat) (f : Field), fs[j]? = some f → ∃ (v : Value) (y : DataW H × List MemPlace), w.cell? (a.add (i * fs.size + j)) = some v ∧ ys[j]? = some y ∧ DataW.trod enc P w base spare held n f.type [v] = some y := by
  rcases open_slice ht h with h0 | ⟨a, len, cap, m, n, D, Pl, hcs, hb, hl, hm, hmm, hx, hi⟩
  · exact .inl h0
  · refine .inr ⟨a, len, cap, m, D, Pl, hcs, hb, hl, hm, hmm, by rw [hC] at hx; exact hx, fun i him => ?_⟩
    obtain ⟨cs', hc, ht'⟩ := hi i him
    rw [hC] at hc
    obtain ⟨ys, n', hn', hy, hlen, hyl, hf⟩ := DataW.trod_struct he ht'
    obtain ⟨_, hcl, hat⟩ := World.cells?_some hc
    simp only [Prod.mk.injEq] at hy
    refine ⟨ys, n', hy.1, hy.2, hyl, fun j f hj => ?_⟩
    obtain ⟨ho, hk⟩ := hone_of hone j f hj
    have hjl : j < fs.size := (Array.getElem?_eq_some_iff.1 hj).1
    have hcell := hat j hjl
    have hv : cs'[j]? = some (cs'[j]'(by omega)) := List.getElem?_eq_getElem (by omega)
    have h1 := hf j f hj
    rw [ho, hk] at h1
    have hone' : (cs'.drop j).take 1 = [cs'[j]'(by omega)] := by
      rw [List.drop_eq_getElem_cons (by omega)]
      rfl
    rw [hone'] at h1
    have hys : ys[j]? = some (ys[j]'(by omega)) := List.getElem?_eq_getElem (by omega)
    refine ⟨_, _, ?_, hys, h1.trans hys⟩
    rw [← Go.Deep.add_add, hcell, hv]

/-- A list out of its cells. -/
theorem pts_of {n : Nat} {b off : Nat} (h : ∀ i, i < n → ∃ z : Int × Int, w.cell? ⟨b, off + i * 2, none⟩ = some (.int .i64 z.1) ∧ w.cell? ⟨b, off + i * 2 + 1, none⟩ = some (.int .i64 z.2)) :
    ∃ ps : List (Int × Int), ps.length = n ∧ ∀ i, i < n → w.cell? ⟨b, off + i * 2, none⟩ = some (.int .i64 (Fix.px ps i)) ∧ w.cell? ⟨b, off + i * 2 + 1, none⟩ = some (.int .i64 (Fix.py ps i)) := by
  induction n with
  | zero => exact ⟨[], rfl, fun i hi => absurd hi (by omega)⟩
  | succ n ih =>
    obtain ⟨ps, hl, hp⟩ := ih fun i hi => h i (by omega)
    obtain ⟨z, hz1, hz2⟩ := h n (by omega)
    refine ⟨ps ++ [z], by simp [hl], fun i hi => ?_⟩
    rcases Nat.lt_or_ge i n with hin | hin
    · have := hp i hin
      unfold Fix.px Fix.py at *
      rw [List.getElem?_append_left (by omega)]
      exact this
    · obtain rfl : i = n := by omega
      unfold Fix.px Fix.py
      rw [List.getElem?_append_right (by omega), hl, Nat.sub_self]
      exact ⟨hz1, hz2⟩

theorem read_points {t e : TypeId} {f0 f1 : Field} {fuel : Nat} {v : Value} {x : DataW H × List MemPlace} {sp : Nat → Bool}
    (ht : P.underlying t = some (.slice e)) (he : P.underlying e = some (.struct #[f0, f1])) (hone : oneCellFields P #[f0, f1] = true) (hC : P.cellsOf e = 2)
    (h0 : P.underlying f0.type = some (.int .i64)) (h1 : P.underlying f1.type = some (.int .i64)) (h : DataW.trod enc P w base sp held fuel t [v] = some x) :
    ∃ (A : Option Addr) (c : Nat) (ps : List (Int × Int)), v = .slice A ps.length c ∧ RdP w A ps := by
  rcases open_slice_fields ht he hone hC h with ⟨hcs, _⟩ | ⟨a, len, cap, m, D, Pl, hcs, _, hl, hm, hmm, _, hi⟩
  · have hv : v = .slice none 0 0 := by simpa using hcs
    exact ⟨none, 0, [], hv, fun hp => absurd hp (by simp)⟩
  · have hv : v = .slice (some a) len cap := by simpa using hcs
    have hlm : len ≤ m := by rw [hmm]; split <;> omega
    have hcell : ∀ i, i < len → ∃ z : Int × Int, w.cell? (a.add (i * 2 + 0)) = some (.int .i64 z.1) ∧ w.cell? (a.add (i * 2 + 1)) = some (.int .i64 z.2) := by
      intro i hil
      obtain ⟨ys, n, _, _, _, hf⟩ := hi i (by omega)
      obtain ⟨v0, y0, c0, _, t0⟩ := hf 0 f0 rfl
      obtain ⟨v1, y1, c1, _, t1⟩ := hf 1 f1 rfl
      obtain ⟨n0, e0, _, _⟩ := DataW.trod_int h0 t0
      obtain ⟨n1, e1, _, _⟩ := DataW.trod_int h1 t1
      have e0' : v0 = .int .i64 n0 := by simpa using e0
      have e1' : v1 = .int .i64 n1 := by simpa using e1
      subst e0' e1'
      exact ⟨(n0, n1), c0, c1⟩
    rcases Nat.eq_zero_or_pos len with hz | hz
    · subst hz
      exact ⟨some a, cap, [], hv, fun hp => absurd hp (by simp)⟩
    · obtain ⟨b, off, spot⟩ := a
      have hspot : spot = none := by
        obtain ⟨z, hz1, _⟩ := hcell 0 hz
        simpa [Addr.add] using World.cell?_spot hz1
      subst hspot
      obtain ⟨ps, hpl, hp⟩ := pts_of (w := w) (n := len) (b := b) (off := off) fun i hil => by
        obtain ⟨z, hz1, hz2⟩ := hcell i hil
        rw [Go.WideShapes.add_plain] at hz1 hz2
        exact ⟨z, hz1, by rw [Nat.add_assoc]; exact hz2⟩
      subst hpl
      exact ⟨_, cap, ps, hv, fun _ => ⟨b, off, rfl, World.block_lt_of_cell? w _ (hp 0 hz).1, hp⟩⟩

end
theorem wf_both {x : Int} (h : (Lit.int .i64 x).wf = true) : -9223372036854775808 ≤ x ∧ x ≤ 9223372036854775807 := by
  simp only [Lit.wf, Bool.and_eq_true, decide_eq_true_eq] at h
  have h1 : IntKind.i64.min = -9223372036854775808 := by decide
  have h2 : IntKind.i64.max = 9223372036854775807 := by decide
  omega
theorem wf_lo {x : Int} (h : (Lit.int .i64 x).wf = true) : -9223372036854775808 ≤ x := (wf_both h).1
theorem wf_hi {x : Int} (h : (Lit.int .i64 x).wf = true) : x ≤ 9223372036854775807 := (wf_both h).2
end Go.Proofs.Ytljhocdbfbjpiaa
namespace Go.Proofs.Ytljhocdbfbjpiaa
open Go.RowKit Go.WideShapes Go.ChangeShapes Go.Deep Go.Joins

section
variable {H : Type} {enc : TypeId × Value → H} {P : Program} {w : World} {base : Nat} {held : Bool}
theorem nil_of {t e : TypeId} {fuel n c : Nat} {A : Option Addr} {x : DataW H × List MemPlace} {sp : Nat → Bool} (ht : P.underlying t = some (.slice e)) (h : DataW.trod enc P w base sp held fuel t [.slice A n c] = some x) : A = none → n = 0 ∧ c = 0 := fun hA => by
  rcases open_slice ht h with ⟨hcs, _⟩ | ⟨a, len, cap, m, k, D, Pl, hcs, _⟩
  · simp at hcs
    exact ⟨hcs.2.1, hcs.2.2⟩
  · simp at hcs
    rw [hcs.1] at hA
    cases hA
theorem open_aggN {sp : Nat → Bool} {r : Reach} {b0 : Nat} {t : TypeId} {fs : Array Field} {v : Value} {d : DataW H} {p : List MemPlace} (hs : P.underlying t = some (.struct fs)) (hone : oneCellFields P fs = true) (hC : P.cellsOf t = fs.size)
    (hv : Value.okWide P w r b0 t v) (h : DataW.Trod enc P w base sp held t v d p) :
    ∃ (cs : Array Value) (n : Nat), v = .agg cs ∧ cs.size = fs.size ∧ ∀ (j : Nat) (f : Field), fs[j]? = some f → ∃ (u : Value) (y : DataW H × List MemPlace), cs[j]? = some u ∧ DataW.trod enc P w base sp held n f.type [u] = some y := by
  obtain ⟨cs, rfl, hsz⟩ := okWide_struct hs hv
  obtain ⟨fuel, hf⟩ := h
  obtain ⟨xs, n, _, hx, hcl, hlen, hg⟩ := DataW.trod_struct hs hf
  refine ⟨cs, n, rfl, hsz.trans hC, fun j f hj => ?_⟩
  have hjl : j < fs.size := (Array.getElem?_eq_some_iff.1 hj).1
  obtain ⟨o0, k0⟩ := hone_of hone j f hj
  have h1 := hg j f hj
  have hjc : j < cs.toList.length := by have : cs.size = fs.size := hsz.trans hC; simp; omega
  rw [o0, k0] at h1
  have hone' : ((Value.agg cs).cells.toList.drop j).take 1 = [cs[j]'(by simpa using hjc)] := by
    show (cs.toList.drop j).take 1 = _
    rw [List.drop_eq_getElem_cons hjc]
    simp
  rw [hone'] at h1
  exact ⟨_, _, Array.getElem?_eq_getElem _, h1.trans (List.getElem?_eq_getElem (by omega))⟩
theorem array13 {α : Type} {cs : Array α} (h : cs.size = 13) : ∃ c0 c1 c2 c3 c4 c5 c6 c7 c8 c9 c10 c11 c12, cs = #[c0, c1, c2, c3, c4, c5, c6, c7, c8, c9, c10, c11, c12] := by
  obtain ⟨l⟩ := cs
  match l, h with
  | [c0, c1, c2, c3, c4, c5, c6, c7, c8, c9, c10, c11, c12], _ => exact ⟨c0, c1, c2, c3, c4, c5, c6, c7, c8, c9, c10, c11, c12, rfl⟩
theorem read_kinds {t e p pe : TypeId} {f0 f1 f2 f3 g0 g1 : Field} {fuel : Nat} {v : Value} {x : DataW H × List MemPlace} {sp : Nat → Bool}
    (ht : P.underlying t = some (.slice e)) (he : P.underlying e = some (.struct #[f0, f1, f2, f3])) (hone : oneCellFields P #[f0, f1, f2, f3] = true) (hC : P.cellsOf e = 4)
    (h0 : P.underlying f0.type = some (.int .i64)) (h1 : f1.type = p) (hp : P.underlying p = some (.slice pe)) (hpe : P.underlying pe = some (.struct #[g0, g1])) (hpone : oneCellFields P #[g0, g1] = true) (hpC : P.cellsOf pe = 2)
    (hg0 : P.underlying g0.type = some (.int .i64)) (hg1 : P.underlying g1.type = some (.int .i64)) (h2 : P.underlying f2.type = some (.int .i64)) (h3 : P.underlying f3.type = some (.int .i64))
    (h : DataW.trod enc P w base sp held fuel t [v] = some x) :
    ∃ (A : Option Addr) (n c : Nat) (K : KK), v = .slice A n c ∧ RdK w A n K ∧ ∀ i, i < n → K.A i = none → (K.p i).length = 0 ∧ K.c i = 0 := by
  rcases open_slice_cells ht he hone hC h with ⟨hcs, _⟩ | ⟨a, len, cap, m, D, Pl, hcs, _, hl, hm, hmm, _, hi⟩
  · have hv : v = .slice none 0 0 := by simpa using hcs
    exact ⟨none, 0, 0, ⟨fun _ => 0, fun _ => none, fun _ => 0, fun _ => [], fun _ => 0, fun _ => 0⟩, hv, fun hp => absurd hp (by omega), fun i hi => absurd hi (by omega)⟩
  · have hv : v = .slice (some a) len cap := by simpa using hcs
    have hlm : len ≤ m := by rw [hmm]; split <;> omega
    have hex : ∀ i, i < len → ∃ z : Int × Option Addr × Nat × List (Int × Int) × Int × Int, w.cell? (a.add (i * 4 + 0)) = some (.int .i64 z.1) ∧ w.cell? (a.add (i * 4 + 1)) = some (.slice z.2.1 z.2.2.2.1.length z.2.2.1) ∧
        w.cell? (a.add (i * 4 + 2)) = some (.int .i64 z.2.2.2.2.1) ∧ w.cell? (a.add (i * 4 + 3)) = some (.int .i64 z.2.2.2.2.2) ∧ RdP w z.2.1 z.2.2.2.1 ∧ (z.2.1 = none → z.2.2.2.1.length = 0 ∧ z.2.2.1 = 0) := by
      intro i hil
      obtain ⟨ys, n, _, _, _, hf⟩ := hi i (by omega)
      obtain ⟨v0, y0, c0, _, t0⟩ := hf 0 f0 rfl
      obtain ⟨v1, y1, c1, _, t1⟩ := hf 1 f1 rfl
      obtain ⟨v2, y2, c2, _, t2⟩ := hf 2 f2 rfl
      obtain ⟨v3, y3, c3, _, t3⟩ := hf 3 f3 rfl
      obtain ⟨n0, e0, _, _⟩ := DataW.trod_int h0 t0
      obtain ⟨n2, e2, _, _⟩ := DataW.trod_int h2 t2
      obtain ⟨n3, e3, _, _⟩ := DataW.trod_int h3 t3
      rw [h1] at t1
      obtain ⟨A1, k1, ps, rfl, hps⟩ := read_points hp hpe hpone hpC hg0 hg1 t1
      have hnil := nil_of hp t1
      have e0' : v0 = .int .i64 n0 := by simpa using e0
      have e2' : v2 = .int .i64 n2 := by simpa using e2
      have e3' : v3 = .int .i64 n3 := by simpa using e3
      subst e0' e2' e3'
      exact ⟨(n0, A1, k1, ps, n2, n3), c0, c1, c2, c3, hps, hnil⟩
    obtain ⟨Z, hZ⟩ : ∃ Z : Nat → Int × Option Addr × Nat × List (Int × Int) × Int × Int, ∀ i, i < len → w.cell? (a.add (i * 4 + 0)) = some (.int .i64 (Z i).1) ∧ w.cell? (a.add (i * 4 + 1)) = some (.slice (Z i).2.1 (Z i).2.2.2.1.length (Z i).2.2.1) ∧
        w.cell? (a.add (i * 4 + 2)) = some (.int .i64 (Z i).2.2.2.2.1) ∧ w.cell? (a.add (i * 4 + 3)) = some (.int .i64 (Z i).2.2.2.2.2) ∧ RdP w (Z i).2.1 (Z i).2.2.2.1 ∧ ((Z i).2.1 = none → (Z i).2.2.2.1.length = 0 ∧ (Z i).2.2.1 = 0) := by
      refine ⟨fun i => if h : i < len then (hex i h).choose else (0, none, 0, [], 0, 0), fun i hi => ?_⟩
      dsimp only
      rw [dif_pos hi]
      exact (hex i hi).choose_spec
    refine ⟨some a, len, cap, ⟨fun i => (Z i).1, fun i => (Z i).2.1, fun i => (Z i).2.2.1, fun i => (Z i).2.2.2.1, fun i => (Z i).2.2.2.2.1, fun i => (Z i).2.2.2.2.2⟩, hv, fun hp => ?_, fun i hi => (hZ i hi).2.2.2.2.2⟩
    obtain ⟨b, off, spot⟩ := a
    have hspot : spot = none := by
      have h1 := (hZ 0 hp).1
      simpa [Addr.add] using World.cell?_spot h1
    subst hspot
    refine ⟨b, off, rfl, ?_, fun i hil => ?_⟩
    · have h1 := (hZ 0 hp).1
      rw [Go.WideShapes.add_plain] at h1
      exact World.block_lt_of_cell? w _ h1
    · obtain ⟨k0, k1, k2, k3, k4, _⟩ := hZ i hil
      rw [Go.WideShapes.add_plain] at k0 k1 k2 k3
      refine ⟨⟨?_, ?_, ?_, ?_⟩, k4⟩
      · simpa using k0
      · rw [Nat.add_assoc]; exact k1
      · rw [Nat.add_assoc]; exact k2
      · rw [Nat.add_assoc]; exact k3
theorem read_packs {t e : TypeId} {f0 f1 f2 g0 g1 g2 : Field} {fuel : Nat} {v : Value} {x : DataW H × List MemPlace} {sp : Nat → Bool}
    (ht : P.underlying t = some (.slice e)) (he : P.underlying e = some (.struct #[f0, f1, f2])) (hp : P.underlying f2.type = some (.struct #[g0, g1, g2])) (hC : P.cellsOf e = 5)
    (ho : f0.offset = 0 ∧ f1.offset = 1 ∧ f2.offset = 2 ∧ g0.offset = 0 ∧ g1.offset = 1 ∧ g2.offset = 2) (hk : P.cellsOf f0.type = 1 ∧ P.cellsOf f1.type = 1 ∧ P.cellsOf f2.type = 3 ∧ P.cellsOf g0.type = 1 ∧ P.cellsOf g1.type = 1 ∧ P.cellsOf g2.type = 1)
    (h0 : P.underlying f0.type = some (.int .i64)) (h1 : P.underlying f1.type = some (.int .i64)) (i0 : P.underlying g0.type = some (.int .i64)) (i1 : P.underlying g1.type = some (.int .i64)) (i2 : P.underlying g2.type = some (.int .i64))
    (h : DataW.trod enc P w base sp held fuel t [v] = some x) :
    ∃ (A : Option Addr) (n c : Nat) (f : Nat → Nat → Int), v = .slice A n c ∧ RI w A 5 n f := by
  rcases open_slice ht h with ⟨hcs, _⟩ | ⟨a, len, cap, m, n, D, Pl, hcs, hb, hl, hm, hmm, hx, hi⟩
  · have hv : v = .slice none 0 0 := by simpa using hcs
    exact ⟨none, 0, 0, fun _ _ => 0, hv, fun hp => absurd hp (by omega)⟩
  · have hv : v = .slice (some a) len cap := by simpa using hcs
    have hlm : len ≤ m := by rw [hmm]; split <;> omega
    have hcell : ∀ i, i < len → ∀ j, j < 5 → ∃ z : Int, w.cell? (a.add (i * 5 + j)) = some (.int .i64 z) := by
      intro i hil
      obtain ⟨cs', hc, ht'⟩ := hi i (by omega)
      rw [hC] at hc
      obtain ⟨_, hcl, hat⟩ := World.cells?_some hc
      obtain ⟨ys, n', hn', hy, hlen, hyl, hf⟩ := DataW.trod_struct he ht'
      match cs', hcl with
      | [u0, u1, u2, u3, u4], _ =>
        obtain ⟨o0, o1, o2, p0, p1, p2⟩ := ho
        obtain ⟨k0, k1, k2, l0, l1, l2⟩ := hk
        match ys, hyl with
        | [y0, y1, y2], _ =>
          have t0 := hf 0 f0 rfl
          have t1 := hf 1 f1 rfl
          have t2 := hf 2 f2 rfl
          rw [o0, k0] at t0
          rw [o1, k1] at t1
          rw [o2, k2] at t2
          have t0' : DataW.trod enc P w base sp held n' f0.type [u0] = some y0 := by simpa using t0
          have t1' : DataW.trod enc P w base sp held n' f1.type [u1] = some y1 := by simpa using t1
          have t2' : DataW.trod enc P w base sp held n' f2.type [u2, u3, u4] = some y2 := by simpa using t2
          obtain ⟨zs, n2, _, _, _, hzl, hg⟩ := DataW.trod_struct hp t2'
          match zs, hzl with
          | [z0, z1, z2], _ =>
            have s0 := hg 0 g0 rfl
            have s1 := hg 1 g1 rfl
            have s2 := hg 2 g2 rfl
            rw [p0, l0] at s0
            rw [p1, l1] at s1
            rw [p2, l2] at s2
            have s0' : DataW.trod enc P w base sp held n2 g0.type [u2] = some z0 := by simpa using s0
            have s1' : DataW.trod enc P w base sp held n2 g1.type [u3] = some z1 := by simpa using s1
            have s2' : DataW.trod enc P w base sp held n2 g2.type [u4] = some z2 := by simpa using s2
            obtain ⟨n0, e0, _, _⟩ := DataW.trod_int h0 t0'
            obtain ⟨n1, e1, _, _⟩ := DataW.trod_int h1 t1'
            obtain ⟨m0, q0, _, _⟩ := DataW.trod_int i0 s0'
            obtain ⟨m1, q1, _, _⟩ := DataW.trod_int i1 s1'
            obtain ⟨m2, q2, _, _⟩ := DataW.trod_int i2 s2'
            have e0' : u0 = .int .i64 n0 := by simpa using e0
            have e1' : u1 = .int .i64 n1 := by simpa using e1
            have q0' : u2 = .int .i64 m0 := by simpa using q0
            have q1' : u3 = .int .i64 m1 := by simpa using q1
            have q2' : u4 = .int .i64 m2 := by simpa using q2
            subst e0' e1' q0' q1' q2'
            intro j hj
            have hj5 := hat j hj
            rw [← Go.Deep.add_add, hj5]
            rcases (by omega : j = 0 ∨ j = 1 ∨ j = 2 ∨ j = 3 ∨ j = 4) with rfl | rfl | rfl | rfl | rfl
            · exact ⟨_, rfl⟩
            · exact ⟨_, rfl⟩
            · exact ⟨_, rfl⟩
            · exact ⟨_, rfl⟩
            · exact ⟨_, rfl⟩
    obtain ⟨f, hf⟩ : ∃ f : Nat → Nat → Int, ∀ i, i < len → ∀ j, j < 5 → w.cell? (a.add (i * 5 + j)) = some (.int .i64 (f i j)) := by
      refine ⟨fun i j => if h : i < len ∧ j < 5 then (hcell i h.1 j h.2).choose else 0, fun i hi j hj => ?_⟩
      dsimp only
      rw [dif_pos ⟨hi, hj⟩]
      exact (hcell i hi j hj).choose_spec
    refine ⟨some a, len, cap, f, hv, fun hp => ?_⟩
    obtain ⟨b, off, spot⟩ := a
    have hspot : spot = none := by
      have h1 := hf 0 hp 0 (by omega)
      simpa [Addr.add] using World.cell?_spot h1
    subst hspot
    refine ⟨b, off, rfl, ?_, fun i hil j hj => ?_⟩
    · have h1 := hf 0 hp 0 (by omega)
      rw [Go.WideShapes.add_plain] at h1
      exact World.block_lt_of_cell? w _ h1
    · have h1 := hf i hil j hj
      rw [Go.WideShapes.add_plain] at h1
      rw [Nat.add_assoc]
      exact h1
end
theorem topWater_any (S : Sys) (wet sec : Int) (ch : List Int) (C : Option Addr) (cc : Nat) (w : World) (hM : SysM w S) (hN : NilS S) (hC : Rd w C ch) :
    Calls Try.prog 4 #[sysS S, .int .i64 wet, .int .i64 sec, .slice C ch.length cc] w fun e w' => e = .returned (.bool true) ∧ Below w.heap.size w w' := by
  by_cases hs : Small S ch
  · exact topw_small S wet sec ch C cc w hM hN hC hs
  · exact topw_size S wet sec ch C cc w hs
end Go.Proofs.Ytljhocdbfbjpiaa
