/-
  The memory of the search for an assignment; the copy of a slice of ints.
-/
import Derived.Test.YtljhocdbfbjpiaaAsgA
import Derived.Test.YtljhocdbfbjpiaaSliceHas
import Derived.Test.YtljhocdbfbjpiaaPlanCells
import Derived.Test.YtljhocdbfbjpiaaPlanMem
import Derived.Laws.AppendOwn
import Derived.Deep.AppendLies
namespace Go.Proofs.Ytljhocdbfbjpiaa
open Go.RowKit

theorem owns_set1 {w : World} {B n : Nat} {t : TypeId} {v : Value} {xs : List Value} (h : w.ownsRow B t 1 v n xs) {p : Addr} (hp : p.block < B) (u : Value) : (w.setCell p u).ownsRow B t 1 v n xs := by
  refine ⟨h.1, ?_⟩
  rcases h.2 with h0 | ⟨g, cap, cur, hv, hB, hh, r⟩
  · exact .inl h0
  · refine .inr ⟨g, cap, cur, hv, hB, ?_, r⟩
    rw [Below.heap_setCell _ _ _ _ (by intro e; omega)]
    exact hh
theorem owns_on {w w' : World} {B n : Nat} {t : TypeId} {v : Value} {xs : List Value} (h : w.ownsRow B t 1 v n xs) (hb : Below w.heap.size w w') : w'.ownsRow B t 1 v n xs := by
  refine ⟨h.1, ?_⟩
  rcases h.2 with h0 | ⟨g, cap, cur, hv, hB, hh, r⟩
  · exact .inl h0
  · refine .inr ⟨g, cap, cur, hv, hB, ?_, r⟩
    have hlt : g < w.heap.size := by
      rcases Nat.lt_or_ge g w.heap.size with h | h
      · exact h
      · rw [Array.getElem?_eq_none h] at hh; cases hh
    exact (hb.block g hlt).trans hh
theorem owns_cut {w : World} {B n g c : Nat} {t : TypeId} {ys : List Value} {y : Value} (h : w.ownsRow B t 1 (.slice (some ⟨g, 0, none⟩) (n + 1) c) (n + 1) (ys ++ [y])) : w.ownsRow B t 1 (.slice (some ⟨g, 0, none⟩) n c) n ys := by
  have hl : ys.length = n := by have := h.1; simp at this; omega
  refine ⟨by simpa using hl, ?_⟩
  rcases h.2 with ⟨h0, _⟩ | ⟨g', cap, cur, hv, hB, hh, h1, h2, h3, h4⟩
  · cases h0
  · injection hv with hv _ hc
    injection hv with hv
    injection hv with hv
    subst hv hc
    refine .inr ⟨g, c, cur, rfl, hB, hh, by omega, h2, h3, ?_⟩
    have e : cur.toList.take (n * 1) = (cur.toList.take ((n + 1) * 1)).take n := by rw [List.take_take]; congr 1; omega
    rw [e, h4, List.take_left' hl]
theorem owns_form {w : World} {B n : Nat} {t : TypeId} {v : Value} {xs : List Value} (h : w.ownsRow B t 1 v n xs) : ∃ A c, v = .slice A n c ∧ n ≤ c := by
  rcases h.2 with ⟨hv, h0⟩ | ⟨g, cap, cur, hv, _, _, hc, _⟩
  · exact ⟨none, 0, by rw [hv, h0], by omega⟩
  · exact ⟨_, _, hv, hc⟩
theorem owns_rd {w : World} {B n : Nat} {t : TypeId} {A : Option Addr} {c : Nat} {xs : List Int} (h : w.ownsRow B t 1 (.slice A n c) n (xs.map (Value.int .i64))) : Rd w A xs := by
  have hl : xs.length = n := by simpa using h.1
  rcases h.2 with ⟨hv, h0⟩ | ⟨g, cap, cur, hv, _⟩
  · have : xs = [] := List.eq_nil_of_length_eq_zero (by omega)
    subst this; exact Rd.nil _ _
  · injection hv with hv
    subst hv
    exact (Own.of_owns h).rd

set_option maxRecDepth 20000 in
set_option maxHeartbeats 2000000 in
theorem clone_two (xs : List Int) (b off c : Nat) (w : World) (hn : 0 < xs.length) (hl : xs.length ≤ 100) (hR : Rd w (some ⟨b, off, none⟩) xs) :
    Calls Try.prog 54 #[.slice (some ⟨b, off, none⟩) xs.length c] w fun e w' => (∃ A n c', e = .returned (.slice A n c')) ∧ Below w.heap.size w w' := by
  obtain ⟨i0, hi0, hz0, hz1, hz2⟩ := info_parts int_info
  have HI := Lib.hid (And.intro hi0 (And.intro hz0 (And.intro hz1 hz2)))
  have hnews : ∀ W, Below w.heap.size w W → ∀ j u, (xs.map (Value.int .i64))[j]? = some u → W.cell? ((⟨b, off, none⟩ : Addr).add j) = some u := by
    intro W hW j u hu
    obtain ⟨b', off', e, h1, h2⟩ := hR.below hW hn
    injection e with e
    injection e with e1 e2
    subst e1 e2
    rw [Go.WideShapes.add_plain]
    have hj : j < xs.length := by have := (List.getElem?_eq_some_iff.1 hu).1; simpa using this
    rw [h2 j hj]
    rw [List.getElem?_map, List.getElem?_eq_getElem hj] at hu
    simp at hu
    rw [List.getElem?_eq_getElem hj, ← hu]; rfl
  have HN := Lib.hid hnews
  clear hi0 hz0 hz1 hz2 hR hnews
  have he : (binOp .eql 28 (.slice (some ⟨b, off, none⟩) xs.length c) (.slice none 0 0)).run Try.prog w = .ok (.bool false) w := by kernel_rfl
  go_enter Try.func54, Try.ntmps54
  go_wp2_with (at_builtin; refine wpList_append_any _ rfl (.tmp 5) (.tmp 6) 28 rfl (w.heap.size) 3 i0 _ 1 8 Try.underlying28 HI.out.1 HI.out.2.1 HI.out.2.2.1 HI.out.2.2.2 rfl (by omega) (.slice (some ⟨w.heap.size, 0, none⟩) 0 0) 0 [] rfl (World.ownsRow_made _ _ _ (Nat.le_refl _) (by simp [maxLen]) rfl) ⟨b, off, none⟩ xs.length c (xs.map (Value.int .i64)) rfl (by simp) (HN.out _ (Joins.below_alloc1 _ _)) (by intro u hu; obtain ⟨y, _, rfl⟩ := List.mem_map.1 hu; rfl) (by simp only [maxLen]; omega) (by omega) (by simp) ?_; intro A5 c5 w5 hown hgrow)
  go_ret
  exact ⟨⟨_, _, _, rfl⟩, (Joins.below_alloc1 _ _).grown hgrow (by simp) (fun k hk => by simp [Value.ownBlock] at hk; omega)⟩

abbrev asgCaps (s : Nat) : Array Value := #[.pointer (some ⟨s + 4, 0, none⟩), .pointer (some ⟨s + 3, 0, none⟩), .pointer (some ⟨s + 2, 0, none⟩), .pointer (some ⟨s, 0, none⟩), .pointer (some ⟨s + 1, 0, none⟩), .pointer (some ⟨s + 5, 0, none⟩)]
abbrev asgArgs (s : Nat) (T : Int) : Array Value := #[.int .i64 T, .pointer (some ⟨s + 4, 0, none⟩), .pointer (some ⟨s + 3, 0, none⟩), .pointer (some ⟨s + 2, 0, none⟩), .pointer (some ⟨s, 0, none⟩), .pointer (some ⟨s + 1, 0, none⟩), .pointer (some ⟨s + 5, 0, none⟩)]
/-- The variables of the search. -/
structure AS (s b : Nat) (w W : World) (f : Bool) (l : Int) (xs : List Int) : Prop where
  be : Below s w W
  lo : s + 6 ≤ W.heap.size
  c : W.cell? ⟨s, 0, none⟩ = some (.slice (some ⟨b, 0, none⟩) 2 2)
  bv : ∃ A n c, W.cell? ⟨s + 1, 0, none⟩ = some (.slice A n c)
  p : ∃ A c, W.cell? ⟨s + 2, 0, none⟩ = some (.slice A xs.length c) ∧ xs.length ≤ c ∧ W.ownsRow (s + 6) 3 1 (.slice A xs.length c) xs.length (xs.map (Value.int .i64))
  l : W.cell? ⟨s + 3, 0, none⟩ = some (.int .i64 l)
  f : W.cell? ⟨s + 4, 0, none⟩ = some (.bool f)
  t : W.cell? ⟨s + 5, 0, none⟩ = some (.func (.func 53) #[] (asgCaps s))
  f1 : W.frozen? ⟨s + 1, 0, none⟩ = false
  f2 : W.frozen? ⟨s + 2, 0, none⟩ = false
  f3 : W.frozen? ⟨s + 3, 0, none⟩ = false
  f4 : W.frozen? ⟨s + 4, 0, none⟩ = false
theorem AS.on {s b : Nat} {w W W' : World} {f : Bool} {l : Int} {xs : List Int} (h : AS s b w W f l xs) (hb : Below W.heap.size W W') : AS s b w W' f l xs := by
  have hlo := h.lo
  have hz := hb.size
  have cell : ∀ k, k < 6 → W'.cell? ⟨s + k, 0, none⟩ = W.cell? ⟨s + k, 0, none⟩ := fun k hk => hb.cell (p := ⟨s + k, 0, none⟩) (by show s + k < _; omega)
  have froz : ∀ k, k < 6 → W'.frozen? ⟨s + k, 0, none⟩ = W.frozen? ⟨s + k, 0, none⟩ := fun k hk => hb.frozen (p := ⟨s + k, 0, none⟩) (by show s + k < _; omega)
  obtain ⟨A, n, c, hbv⟩ := h.bv
  obtain ⟨Ap, cp, hp, hpc, hpo⟩ := h.p
  exact ⟨h.be.trans (hb.mono (by omega)), by omega, (cell 0 (by omega)).trans h.c, ⟨A, n, c, (cell 1 (by omega)).trans hbv⟩, ⟨Ap, cp, (cell 2 (by omega)).trans hp, hpc, owns_on hpo hb⟩,
    (cell 3 (by omega)).trans h.l, (cell 4 (by omega)).trans h.f, (cell 5 (by omega)).trans h.t, (froz 1 (by omega)).trans h.f1, (froz 2 (by omega)).trans h.f2, (froz 3 (by omega)).trans h.f3, (froz 4 (by omega)).trans h.f4⟩
theorem AS.cellO {s : Nat} {W : World} {k j : Nat} (h : k ≠ j) (v : Value) : (W.setCell ⟨s + k, 0, none⟩ v).cell? ⟨s + j, 0, none⟩ = W.cell? ⟨s + j, 0, none⟩ :=
  World.cell?_setCell_other _ _ _ _ (by intro e; injection e with e _; omega)
theorem AS.cellS {s : Nat} {W : World} {k : Nat} {u : Value} (h : W.cell? ⟨s + k, 0, none⟩ = some u) (v : Value) : (W.setCell ⟨s + k, 0, none⟩ v).cell? ⟨s + k, 0, none⟩ = some v := by
  rw [cell_set_self, h]; rfl
theorem AS.setBv {s b : Nat} {w W : World} {f : Bool} {l : Int} {xs : List Int} (h : AS s b w W f l xs) (A : Option Addr) (n c : Nat) : AS s b w (W.setCell ⟨s + 1, 0, none⟩ (.slice A n c)) f l xs := by
  obtain ⟨A0, n0, c0, hbv⟩ := h.bv
  obtain ⟨Ap, cp, hp, hpc, hpo⟩ := h.p
  exact ⟨h.be.setCell (by show s ≤ s + 1; omega) _, by simpa using h.lo, (AS.cellO (k := 1) (j := 0) (by omega) _).trans h.c, ⟨A, n, c, AS.cellS hbv _⟩, ⟨Ap, cp, (AS.cellO (by omega) _).trans hp, hpc, owns_set1 hpo (by show s + 1 < s + 6; omega) _⟩,
    (AS.cellO (by omega) _).trans h.l, (AS.cellO (by omega) _).trans h.f, (AS.cellO (by omega) _).trans h.t, (World.frozen?_setCell _ _ _ _).trans h.f1, (World.frozen?_setCell _ _ _ _).trans h.f2, (World.frozen?_setCell _ _ _ _).trans h.f3, (World.frozen?_setCell _ _ _ _).trans h.f4⟩
theorem AS.setL {s b : Nat} {w W : World} {f : Bool} {l : Int} {xs : List Int} (h : AS s b w W f l xs) (l' : Int) : AS s b w (W.setCell ⟨s + 3, 0, none⟩ (.int .i64 l')) f l' xs := by
  obtain ⟨A0, n0, c0, hbv⟩ := h.bv
  obtain ⟨Ap, cp, hp, hpc, hpo⟩ := h.p
  exact ⟨h.be.setCell (by show s ≤ s + 3; omega) _, by simpa using h.lo, (AS.cellO (k := 3) (j := 0) (by omega) _).trans h.c, ⟨A0, n0, c0, (AS.cellO (by omega) _).trans hbv⟩, ⟨Ap, cp, (AS.cellO (by omega) _).trans hp, hpc, owns_set1 hpo (by show s + 3 < s + 6; omega) _⟩,
    AS.cellS h.l _, (AS.cellO (by omega) _).trans h.f, (AS.cellO (by omega) _).trans h.t, (World.frozen?_setCell _ _ _ _).trans h.f1, (World.frozen?_setCell _ _ _ _).trans h.f2, (World.frozen?_setCell _ _ _ _).trans h.f3, (World.frozen?_setCell _ _ _ _).trans h.f4⟩
theorem AS.setF {s b : Nat} {w W : World} {f : Bool} {l : Int} {xs : List Int} (h : AS s b w W f l xs) (f' : Bool) : AS s b w (W.setCell ⟨s + 4, 0, none⟩ (.bool f')) f' l xs := by
  obtain ⟨A0, n0, c0, hbv⟩ := h.bv
  obtain ⟨Ap, cp, hp, hpc, hpo⟩ := h.p
  exact ⟨h.be.setCell (by show s ≤ s + 4; omega) _, by simpa using h.lo, (AS.cellO (k := 4) (j := 0) (by omega) _).trans h.c, ⟨A0, n0, c0, (AS.cellO (by omega) _).trans hbv⟩, ⟨Ap, cp, (AS.cellO (by omega) _).trans hp, hpc, owns_set1 hpo (by show s + 4 < s + 6; omega) _⟩,
    (AS.cellO (by omega) _).trans h.l, AS.cellS h.f _, (AS.cellO (by omega) _).trans h.t, (World.frozen?_setCell _ _ _ _).trans h.f1, (World.frozen?_setCell _ _ _ _).trans h.f2, (World.frozen?_setCell _ _ _ _).trans h.f3, (World.frozen?_setCell _ _ _ _).trans h.f4⟩
/-- The list at hand is another one, whose row is the call's own. -/
theorem AS.setP {s b : Nat} {w W : World} {f : Bool} {l : Int} {xs ys : List Int} (h : AS s b w W f l xs) {A : Option Addr} {c : Nat} (hc : ys.length ≤ c) (ho : W.ownsRow (s + 6) 3 1 (.slice A ys.length c) ys.length (ys.map (Value.int .i64))) : AS s b w (W.setCell ⟨s + 2, 0, none⟩ (.slice A ys.length c)) f l ys := by
  obtain ⟨A0, n0, c0, hbv⟩ := h.bv
  obtain ⟨Ap, cp, hp, hpc, hpo⟩ := h.p
  exact ⟨h.be.setCell (by show s ≤ s + 2; omega) _, by simpa using h.lo, (AS.cellO (k := 2) (j := 0) (by omega) _).trans h.c, ⟨A0, n0, c0, (AS.cellO (by omega) _).trans hbv⟩, ⟨A, c, AS.cellS hp _, hc, owns_set1 ho (by show s + 2 < s + 6; omega) _⟩,
    (AS.cellO (by omega) _).trans h.l, (AS.cellO (by omega) _).trans h.f, (AS.cellO (by omega) _).trans h.t, (World.frozen?_setCell _ _ _ _).trans h.f1, (World.frozen?_setCell _ _ _ _).trans h.f2, (World.frozen?_setCell _ _ _ _).trans h.f3, (World.frozen?_setCell _ _ _ _).trans h.f4⟩
/-- The search's variables when the row at hand has grown, or a new one has taken its place. -/
theorem AS.far {s b : Nat} {w W W1 W2 : World} {f : Bool} {l : Int} {xs : List Int} (h : AS s b w W f l xs) (hx : Below W.heap.size W W1) {row : Option Nat} (hg : W1.grownBy W2 row) (hr : ∀ k, row = some k → s + 6 ≤ k) {k : Nat} (hk : k < 6) :
    W2.cell? ⟨s + k, 0, none⟩ = W.cell? ⟨s + k, 0, none⟩ ∧ W2.frozen? ⟨s + k, 0, none⟩ = W.frozen? ⟨s + k, 0, none⟩ := by
  have hlo := h.lo
  have hz := hx.size
  have hne : some (s + k) ≠ row := fun e => by have := hr _ e.symm; omega
  exact ⟨(hg.cell_far ⟨s + k, 0, none⟩ (by show s + k < _; omega) hne).trans (hx.cell (p := ⟨s + k, 0, none⟩) (by show s + k < _; omega)), (hg.frozen_far ⟨s + k, 0, none⟩ (by show s + k < _; omega) hne).trans (hx.frozen (p := ⟨s + k, 0, none⟩) (by show s + k < _; omega))⟩
theorem AS.app {s b : Nat} {w W W1 W2 : World} {f : Bool} {l : Int} {xs ys : List Int} (h : AS s b w W f l xs) (hx : Below W.heap.size W W1) {row : Option Nat} (hg : W1.grownBy W2 row) (hr : ∀ k, row = some k → s + 6 ≤ k) {A : Option Addr} {c : Nat} (hc : ys.length ≤ c) (ho : W2.ownsRow (s + 6) 3 1 (.slice A ys.length c) ys.length (ys.map (Value.int .i64))) : AS s b w (W2.setCell ⟨s + 2, 0, none⟩ (.slice A ys.length c)) f l ys := by
  have F := fun k (hk : k < 6) => h.far hx hg hr hk
  obtain ⟨A0, n0, c0, hbv⟩ := h.bv
  obtain ⟨Ap, cp, hp, hpc, hpo⟩ := h.p
  have hz := hx.size
  have hz2 := hg.size
  have hlo := h.lo
  have hbe : Below s w W2 := (h.be.trans (hx.mono (by omega))).grown hg (by omega) (fun k hk => by have := hr k hk; omega)
  exact ⟨hbe.setCell (by show s ≤ s + 2; omega) _, by simp; omega, (AS.cellO (k := 2) (j := 0) (by omega) _).trans ((F 0 (by omega)).1.trans h.c), ⟨A0, n0, c0, (AS.cellO (by omega) _).trans ((F 1 (by omega)).1.trans hbv)⟩, ⟨A, c, AS.cellS ((F 2 (by omega)).1.trans hp) _, hc, owns_set1 ho (by show s + 2 < s + 6; omega) _⟩,
    (AS.cellO (by omega) _).trans ((F 3 (by omega)).1.trans h.l), (AS.cellO (by omega) _).trans ((F 4 (by omega)).1.trans h.f), (AS.cellO (by omega) _).trans ((F 5 (by omega)).1.trans h.t), (World.frozen?_setCell _ _ _ _).trans ((F 1 (by omega)).2.trans h.f1), (World.frozen?_setCell _ _ _ _).trans ((F 2 (by omega)).2.trans h.f2), (World.frozen?_setCell _ _ _ _).trans ((F 3 (by omega)).2.trans h.f3), (World.frozen?_setCell _ _ _ _).trans ((F 4 (by omega)).2.trans h.f4)⟩
end Go.Proofs.Ytljhocdbfbjpiaa
