/-
  The memory of the plan of the groomers while the clashes are laid.
-/
import Derived.Test.YtljhocdbfbjpiaaRouteG
import Derived.Test.YtljhocdbfbjpiaaAsgB
namespace Go.Proofs.Ytljhocdbfbjpiaa
open Go.RowKit

def falses (n : Nat) : List Value := List.replicate n (.bool false)
structure BL where
  S : Nat
  cl : Nat
  pl : Nat
  bs : Nat
  F : Nat
  b : Nat
  q : Nat
  B : Nat
structure BN (L : BL) : Prop where
  S1 : L.B ≤ L.S
  c1 : L.B ≤ L.cl
  p1 : L.B ≤ L.pl
  s1 : L.B ≤ L.bs
  S2 : L.S < L.F
  c2 : L.cl < L.F
  p2 : L.pl < L.F
  s2 : L.bs < L.F
  b0 : L.b < L.B
  q0 : L.q < L.B
  Sc : L.S ≠ L.cl
  Sp : L.S ≠ L.pl
  Ss : L.S ≠ L.bs
  cp : L.cl ≠ L.pl
  cs : L.cl ≠ L.bs
  ps : L.pl ≠ L.bs
structure BV (L : BL) (w W : World) (n0 n1 : Nat) (e : Int) : Prop where
  n : BN L
  be : Below L.B w W
  zF : L.F ≤ W.heap.size
  s0 : W.cell? ⟨L.S, 0, none⟩ = some (.slice (some ⟨L.b, 0, none⟩) 2 2)
  s1 : W.cell? ⟨L.S, 1, none⟩ = some (.slice (some ⟨L.q, 0, none⟩) 2 2)
  s2 : W.cell? ⟨L.S, 2, none⟩ = some (.slice (some ⟨L.cl, 0, none⟩) 2 2)
  s3 : W.cell? ⟨L.S, 3, none⟩ = some (.slice (some ⟨L.pl, 0, none⟩) 2 2)
  s4 : W.cell? ⟨L.S, 4, none⟩ = some (.slice (some ⟨L.bs, 0, none⟩) 2 2)
  s5 : W.cell? ⟨L.S, 5, none⟩ = some (.int .i64 e)
  r : ∃ A0 c0 A1 c1, W.cell? ⟨L.cl, 0, none⟩ = some (.slice A0 n0 c0) ∧ W.ownsRow L.F 4 1 (.slice A0 n0 c0) n0 (falses n0) ∧ W.cell? ⟨L.cl, 1, none⟩ = some (.slice A1 n1 c1) ∧ W.ownsRow L.F 4 1 (.slice A1 n1 c1) n1 (falses n1) ∧
    (∀ g, Value.ownBlock (.slice A0 n0 c0) = some g → Value.ownBlock (.slice A1 n1 c1) ≠ some g) ∧ (n0 = 0 → A0 = none) ∧ (n1 = 0 → A1 = none)
  p : ∀ k, k < 8 → W.cell? ⟨L.pl, k, none⟩ = some (.int .i64 0)
  b : W.heap[L.bs]? = some (.cells (shC Sh.zero ++ shC Sh.zero).toArray 163 (0, 0))
  f5 : ∀ k, W.frozen? ⟨L.S, k, none⟩ = false
  fc : ∀ k, W.frozen? ⟨L.cl, k, none⟩ = false
  fp : ∀ k, W.frozen? ⟨L.pl, k, none⟩ = false

theorem BV.on {L : BL} {w W W' : World} {n0 n1 : Nat} {e : Int} (h : BV L w W n0 n1 e) (hb : Below W.heap.size W W') : BV L w W' n0 n1 e := by
  have hF := h.zF
  have hn := h.n
  have hz := hb.size
  have zS : L.S < W.heap.size := Nat.lt_of_lt_of_le hn.S2 hF
  have zc : L.cl < W.heap.size := Nat.lt_of_lt_of_le hn.c2 hF
  have zp : L.pl < W.heap.size := Nat.lt_of_lt_of_le hn.p2 hF
  have zs : L.bs < W.heap.size := Nat.lt_of_lt_of_le hn.s2 hF
  have cell : ∀ q i, q < W.heap.size → W'.cell? ⟨q, i, none⟩ = W.cell? ⟨q, i, none⟩ := fun q i hq => hb.cell (p := ⟨q, i, none⟩) hq
  have froz : ∀ q i, q < W.heap.size → W'.frozen? ⟨q, i, none⟩ = W.frozen? ⟨q, i, none⟩ := fun q i hq => hb.frozen (p := ⟨q, i, none⟩) hq
  obtain ⟨A0, c0, A1, c1, r1, r2, r3, r4, r5, r6, r7⟩ := h.r
  have hB := hn.S1
  exact ⟨hn, h.be.trans (hb.mono (by omega)), by omega, (cell _ _ zS).trans h.s0, (cell _ _ zS).trans h.s1, (cell _ _ zS).trans h.s2, (cell _ _ zS).trans h.s3, (cell _ _ zS).trans h.s4, (cell _ _ zS).trans h.s5, ⟨A0, c0, A1, c1, (cell _ _ zc).trans r1, owns_on r2 hb, (cell _ _ zc).trans r3, owns_on r4 hb, r5, r6, r7⟩,
    fun k hk => (cell _ _ zp).trans (h.p k hk), (hb.block _ zs).trans h.b, fun k => (froz _ _ zS).trans (h.f5 k), fun k => (froz _ _ zc).trans (h.fc k), fun k => (froz _ _ zp).trans (h.fp k)⟩
theorem BV.setE {L : BL} {w W : World} {n0 n1 : Nat} {e : Int} (h : BV L w W n0 n1 e) (v : Int) : BV L w (W.setCell ⟨L.S, 5, none⟩ (.int .i64 v)) n0 n1 v := by
  have hn := h.n
  obtain ⟨A0, c0, A1, c1, r1, r2, r3, r4, r5, r6, r7⟩ := h.r
  exact ⟨hn, h.be.setCell hn.S1 _, by simpa using h.zF, (sp_i (by decide) _).trans h.s0, (sp_i (by decide) _).trans h.s1, (sp_i (by decide) _).trans h.s2, (sp_i (by decide) _).trans h.s3, (sp_i (by decide) _).trans h.s4, by rw [cell_set_self, h.s5]; rfl, ⟨A0, c0, A1, c1, (sp_o hn.Sc _).trans r1, owns_set1 r2 hn.S2 _, (sp_o hn.Sc _).trans r3, owns_set1 r4 hn.S2 _, r5, r6, r7⟩,
    fun k hk => (sp_o hn.Sp _).trans (h.p k hk), (sp_h hn.Ss _).trans h.b, fun k => (World.frozen?_setCell _ _ _ _).trans (h.f5 k), fun k => (World.frozen?_setCell _ _ _ _).trans (h.fc k), fun k => (World.frozen?_setCell _ _ _ _).trans (h.fp k)⟩
/-- The rows of the frame when a row of the clashes has grown, or a new one has taken its place. -/
theorem BV.far {L : BL} {w W W1 W2 : World} {n0 n1 : Nat} {e : Int} (h : BV L w W n0 n1 e) (hx : Below W.heap.size W W1) {row : Option Nat} (hg : W1.grownBy W2 row) (hr : ∀ k, row = some k → L.F ≤ k) {q : Nat} (hq : q < L.F) :
    W2.heap[q]? = W.heap[q]? := by
  have hF := h.zF
  have hz := hx.size
  exact (hg.block q (by omega) (fun e => by have := hr q e.symm; omega)).trans (hx.block q (by omega))
theorem owns_far {W W1 W2 : World} {F n : Nat} {t : TypeId} {v : Value} {xs : List Value} (h : W.ownsRow F t 1 v n xs) (hx : Below W.heap.size W W1) {row : Option Nat} (hg : W1.grownBy W2 row) (hd : ∀ g, v.ownBlock = some g → row ≠ some g) : W2.ownsRow F t 1 v n xs := by
  have h1 := owns_on h hx
  refine ⟨h1.1, ?_⟩
  rcases h1.2 with h0 | ⟨g, cap, cur, hv, hB, hh, r⟩
  · exact .inl h0
  · refine .inr ⟨g, cap, cur, hv, hB, ?_, r⟩
    have hlt : g < W1.heap.size := by
      rcases Nat.lt_or_ge g W1.heap.size with h | h
      · exact h
      · rw [Array.getElem?_eq_none h] at hh; cases hh
    exact (hg.block g hlt (fun e => hd g (by rw [hv]; rfl) e.symm)).trans hh
theorem BV.app0 {L : BL} {w W W1 W2 : World} {n0 n1 : Nat} {e : Int} (h : BV L w W n0 n1 e) (hx : Below W.heap.size W W1) {A : Option Addr} {c : Nat} (hA : W.cell? ⟨L.cl, 0, none⟩ = some (.slice A n0 c)) (hg : W1.grownBy W2 (Value.ownBlock (.slice A n0 c))) {g cap : Nat} (hat : Value.ownBlock (.slice A n0 c) = some g ∨ g = W1.heap.size)
    (ho : W2.ownsRow L.F 4 1 (.slice (some ⟨g, 0, none⟩) (n0 + 1) cap) (n0 + 1) (falses n0 ++ [.bool false])) : BV L w (W2.setCell ⟨L.cl, 0, none⟩ (.slice (some ⟨g, 0, none⟩) (n0 + 1) cap)) (n0 + 1) n1 e := by
  have hn := h.n
  have hF := h.zF
  have hz := hx.size
  have hzg := hg.size
  have hB := hn.S1
  have hS2 := hn.S2
  obtain ⟨A0, c0, A1, c1, r1, r2, r3, r4, r5, r6, r7⟩ := h.r
  obtain ⟨rfl, rfl⟩ : A0 = A ∧ c0 = c := by
    have := r1.symm.trans hA
    injection this with this
    injection this with t1 _ t2
    exact ⟨t1, t2⟩
  have hr : ∀ k, Value.ownBlock (.slice A0 n0 c0) = some k → L.F ≤ k := fun k hk => (r2.lt k hk).1
  have F := fun (q : Nat) (hq : q < L.F) => h.far hx hg hr hq
  have C := fun (q i : Nat) (hq : q < L.F) => World.cell?_of_block (a := ⟨q, i, none⟩) (F q hq)
  have R := fun (q i : Nat) (hq : q < L.F) => World.frozen?_of_block (a := ⟨q, i, none⟩) (F q hq)
  have hoth := owns_far r4 hx hg (fun k hk e => r5 k e hk)
  have e1 : falses n0 ++ [Value.bool false] = falses (n0 + 1) := by unfold falses; rw [List.replicate_succ']
  rw [e1] at ho
  have hmine := owns_set1 (p := ⟨L.cl, 0, none⟩) ho hn.c2 (.slice (some ⟨g, 0, none⟩) (n0 + 1) cap)
  have hoth2 := owns_set1 (p := ⟨L.cl, 0, none⟩) hoth hn.c2 (.slice (some ⟨g, 0, none⟩) (n0 + 1) cap)
  have hbe : Below L.B w W2 := (h.be.trans (hx.mono (by omega))).grown hg (by omega) (fun k hk => by have := hr k hk; omega)
  have hnew : ∀ k, Value.ownBlock (.slice A1 n1 c1) = some k → k ≠ g := fun k hk ek => by
    subst ek
    rcases hat with hat | hat
    · exact r5 k hat hk
    · have := (r4.lt k hk).2
      omega
  refine ⟨hn, hbe.setCell hn.c1 _, by simp; omega, (sp_o hn.Sc.symm _).trans ((C _ _ hn.S2).trans h.s0), (sp_o hn.Sc.symm _).trans ((C _ _ hn.S2).trans h.s1), (sp_o hn.Sc.symm _).trans ((C _ _ hn.S2).trans h.s2), (sp_o hn.Sc.symm _).trans ((C _ _ hn.S2).trans h.s3), (sp_o hn.Sc.symm _).trans ((C _ _ hn.S2).trans h.s4), (sp_o hn.Sc.symm _).trans ((C _ _ hn.S2).trans h.s5), ⟨some ⟨g, 0, none⟩, cap, A1, c1, by rw [cell_set_self, C _ _ hn.c2, r1]; rfl, hmine, (sp_i (by decide) _).trans ((C _ _ hn.c2).trans r3), hoth2, fun k hk e => hnew k e (by injection hk with hk; exact hk.symm), fun h => absurd h (by omega), r7⟩,
    fun k hk => (sp_o hn.cp _).trans ((C _ _ hn.p2).trans (h.p k hk)), (sp_h hn.cs _).trans ((F _ hn.s2).trans h.b), fun k => (World.frozen?_setCell _ _ _ _).trans ((R _ _ hn.S2).trans (h.f5 k)), fun k => (World.frozen?_setCell _ _ _ _).trans ((R _ _ hn.c2).trans (h.fc k)), fun k => (World.frozen?_setCell _ _ _ _).trans ((R _ _ hn.p2).trans (h.fp k))⟩
theorem BV.app1 {L : BL} {w W W1 W2 : World} {n0 n1 : Nat} {e : Int} (h : BV L w W n0 n1 e) (hx : Below W.heap.size W W1) {A : Option Addr} {c : Nat} (hA : W.cell? ⟨L.cl, 1, none⟩ = some (.slice A n1 c)) (hg : W1.grownBy W2 (Value.ownBlock (.slice A n1 c))) {g cap : Nat} (hat : Value.ownBlock (.slice A n1 c) = some g ∨ g = W1.heap.size)
    (ho : W2.ownsRow L.F 4 1 (.slice (some ⟨g, 0, none⟩) (n1 + 1) cap) (n1 + 1) (falses n1 ++ [.bool false])) : BV L w (W2.setCell ⟨L.cl, 1, none⟩ (.slice (some ⟨g, 0, none⟩) (n1 + 1) cap)) n0 (n1 + 1) e := by
  have hn := h.n
  have hF := h.zF
  have hz := hx.size
  have hzg := hg.size
  have hB := hn.S1
  have hS2 := hn.S2
  obtain ⟨A0, c0, A1, c1, r1, r2, r3, r4, r5, r6, r7⟩ := h.r
  obtain ⟨rfl, rfl⟩ : A1 = A ∧ c1 = c := by
    have := r3.symm.trans hA
    injection this with this
    injection this with t1 _ t2
    exact ⟨t1, t2⟩
  have hr : ∀ k, Value.ownBlock (.slice A1 n1 c1) = some k → L.F ≤ k := fun k hk => (r4.lt k hk).1
  have F := fun (q : Nat) (hq : q < L.F) => h.far hx hg hr hq
  have C := fun (q i : Nat) (hq : q < L.F) => World.cell?_of_block (a := ⟨q, i, none⟩) (F q hq)
  have R := fun (q i : Nat) (hq : q < L.F) => World.frozen?_of_block (a := ⟨q, i, none⟩) (F q hq)
  have hoth := owns_far r2 hx hg (fun k hk e => r5 k hk e)
  have e1 : falses n1 ++ [Value.bool false] = falses (n1 + 1) := by unfold falses; rw [List.replicate_succ']
  rw [e1] at ho
  have hmine := owns_set1 (p := ⟨L.cl, 1, none⟩) ho hn.c2 (.slice (some ⟨g, 0, none⟩) (n1 + 1) cap)
  have hoth2 := owns_set1 (p := ⟨L.cl, 1, none⟩) hoth hn.c2 (.slice (some ⟨g, 0, none⟩) (n1 + 1) cap)
  have hbe : Below L.B w W2 := (h.be.trans (hx.mono (by omega))).grown hg (by omega) (fun k hk => by have := hr k hk; omega)
  have hnew : ∀ k, Value.ownBlock (.slice A0 n0 c0) = some k → k ≠ g := fun k hk ek => by
    subst ek
    rcases hat with hat | hat
    · exact r5 k hk hat
    · have := (r2.lt k hk).2
      omega
  refine ⟨hn, hbe.setCell hn.c1 _, by simp; omega, (sp_o hn.Sc.symm _).trans ((C _ _ hn.S2).trans h.s0), (sp_o hn.Sc.symm _).trans ((C _ _ hn.S2).trans h.s1), (sp_o hn.Sc.symm _).trans ((C _ _ hn.S2).trans h.s2), (sp_o hn.Sc.symm _).trans ((C _ _ hn.S2).trans h.s3), (sp_o hn.Sc.symm _).trans ((C _ _ hn.S2).trans h.s4), (sp_o hn.Sc.symm _).trans ((C _ _ hn.S2).trans h.s5), ⟨A0, c0, some ⟨g, 0, none⟩, cap, (sp_i (by decide) _).trans ((C _ _ hn.c2).trans r1), hoth2, by rw [cell_set_self, C _ _ hn.c2, r3]; rfl, hmine, fun k hk e => hnew k hk (by injection e with e; exact e.symm), r6, fun h => absurd h (by omega)⟩,
    fun k hk => (sp_o hn.cp _).trans ((C _ _ hn.p2).trans (h.p k hk)), (sp_h hn.cs _).trans ((F _ hn.s2).trans h.b), fun k => (World.frozen?_setCell _ _ _ _).trans ((R _ _ hn.S2).trans (h.f5 k)), fun k => (World.frozen?_setCell _ _ _ _).trans ((R _ _ hn.c2).trans (h.fc k)), fun k => (World.frozen?_setCell _ _ _ _).trans ((R _ _ hn.p2).trans (h.fp k))⟩
/-- All clashes are laid: the search can begin. -/
theorem BV.done {L : BL} {w W : World} {e : Int} (h : BV L w W 2 2 e) (hT : Tsk w L.b) (hb : L.b < L.B) (hq0 : w.cell? ⟨L.q, 0, none⟩ = some (.bool false)) (hq1 : w.cell? ⟨L.q, 1, none⟩ = some (.bool false)) (hB : L.B = w.heap.size) :
    ∃ LL : SL, LL.S = L.S ∧ LL.bs = L.bs ∧ SP LL L.B w W ⟨Sh.zero, Sh.zero, Sh.zero, Sh.zero, e⟩ := by
  have hn := h.n
  have hF := h.zF
  obtain ⟨A0, c0, A1, c1, r1, r2, r3, r4, r5, r6, r7⟩ := h.r
  obtain ⟨g0, k0, hv0, hg0, hz0⟩ := r2.form (by omega)
  injection hv0 with hv0 _ hk0
  subst hv0 hk0
  obtain ⟨g1, k1, hv1, hg1, hz1⟩ := r4.form (by omega)
  injection hv1 with hv1 _ hk1
  subst hv1 hk1
  have d0 := r2.cells (g := g0) rfl
  have d1 := r4.cells (g := g1) rfl
  have x : ∀ (g : Nat), (∀ j u, (falses 2)[j]? = some u → W.cell? ((⟨g, 0, none⟩ : Addr).add j) = some u) → ∀ j, j < 2 → W.cell? ⟨g, j, none⟩ = some (.bool false) := fun g hd j hj => by
    have h1 := hd j (.bool false) (by obtain rfl | rfl : j = 0 ∨ j = 1 := by omega
                                      all_goals rfl)
    rw [Go.WideShapes.add_plain, Nat.zero_add] at h1
    exact h1
  have hbe : Below w.heap.size w W := by rw [← hB]; exact h.be
  have hqw : L.q < w.heap.size := by rw [← hB]; exact hn.q0
  have hbw : L.b < w.heap.size := by rw [← hB]; exact hb
  have hq := hn.q0
  have h1 := hn.S1
  have h2 := hn.c1
  have h3 := hn.p1
  have h4 := hn.s1
  have h5 := hn.S2
  have h6 := hn.c2
  have h7 := hn.p2
  have h8 := hn.s2
  refine ⟨⟨L.S, L.b, L.q, L.cl, L.pl, L.bs, g0, g1, c0, c1⟩, rfl, rfl, h.be, h1, h3, h4, ?_, ?_, ?_⟩
  · exact ⟨hn.Sp.symm, by show L.pl ≠ L.b; omega, by show L.pl ≠ L.q; omega, hn.cp.symm, hn.ps, by show L.pl ≠ g0; omega, by show L.pl ≠ g1; omega, hn.Ss.symm, by show L.bs ≠ L.b; omega, by show L.bs ≠ L.q; omega, hn.cs.symm, by show L.bs ≠ g0; omega, by show L.bs ≠ g1; omega,
      by show L.S ≠ L.b; omega, by show L.S ≠ L.q; omega, hn.Sc, by show L.S ≠ g0; omega, by show L.S ≠ g1; omega⟩
  · exact ⟨h.s0, h.s1, h.s2, h.s3, h.s4, hT.on hbw hbe, (hbe.cell (p := ⟨L.q, 0, none⟩) hqw).trans hq0, (hbe.cell (p := ⟨L.q, 1, none⟩) hqw).trans hq1, r1, r3, x g0 d0 0 (by omega), x g0 d0 1 (by omega), x g1 d1 0 (by omega), x g1 d1 1 (by omega), h.f5 5, h.fp,
      by show L.S < _; omega, Nat.lt_of_lt_of_le hbw hbe.size, Nat.lt_of_lt_of_le hqw hbe.size, by show L.cl < _; omega, by show L.pl < _; omega, by show L.bs < _; omega, hz0, hz1⟩
  · exact ⟨h.s5, h.p 0 (by omega), h.p 1 (by omega), h.p 2 (by omega), h.p 3 (by omega), h.p 4 (by omega), h.p 5 (by omega), h.p 6 (by omega), h.p 7 (by omega), h.b⟩
end Go.Proofs.Ytljhocdbfbjpiaa
