/-
  The pressures in the network.
-/
import Derived.Test.YtljhocdbfbjpiaaWtFlows
namespace Go.Proofs.Ytljhocdbfbjpiaa
open Go.RowKit

/-- No pipe loses pressure, and each begins at the root. -/
def Flat (f : Nat → Nat → Int) (n : Nat) : Prop := ∀ i, i < n → f i 1 = 0 ∧ f i 3 = 0 ∧ f i 4 = 0
/-- The variables of the function that tells a pressure; the first k pressures are known. -/
structure PS (s T n : Nat) (A : Option Addr) (c : Nat) (root : Int) (f : Nat → Nat → Int) (k : Nat) (w W : World) : Prop where
  be : Below s w W
  st : s + 2 ≤ T
  z : T + 2 ≤ W.heap.size
  l : W.cell? ⟨s, 0, none⟩ = some (.slice A n c)
  r : W.cell? ⟨s + 1, 0, none⟩ = some (.int .i64 root)
  a : W.cell? ⟨T + 1, 0, none⟩ = some (.slice (some ⟨T, 0, none⟩) n n)
  g : ∃ G : Nat → Int, (∀ i, i < n → W.cell? ⟨T, i, none⟩ = some (.int .i64 (G i))) ∧ (Flat f n → ∀ i, i < k → G i = root)
  fr : ∀ i, W.frozen? ⟨T, i, none⟩ = false
theorem PS.below {s T n : Nat} {A : Option Addr} {c : Nat} {root : Int} {f : Nat → Nat → Int} {k : Nat} {w W W' : World} (h : PS s T n A c root f k w W) (hb : Below W.heap.size W W') : PS s T n A c root f k w W' := by
  have hz := h.z
  have hst := h.st
  obtain ⟨G, hG, hG2⟩ := h.g
  exact ⟨thru h.be hb (by omega), hst, Nat.le_trans hz hb.size, (hb.cell (p := ⟨s, 0, none⟩) (by show s < _; omega)).trans h.l, (hb.cell (p := ⟨s + 1, 0, none⟩) (by show s + 1 < _; omega)).trans h.r, (hb.cell (p := ⟨T + 1, 0, none⟩) (by show T + 1 < _; omega)).trans h.a,
    ⟨G, fun i hi => (hb.cell (p := ⟨T, i, none⟩) (by show T < _; omega)).trans (hG i hi), hG2⟩, fun i => (hb.frozen (p := ⟨T, i, none⟩) (by show T < _; omega)).trans (h.fr i)⟩
theorem PS.set {s T n : Nat} {A : Option Addr} {c : Nat} {root : Int} {f : Nat → Nat → Int} {k : Nat} {w W : World} (h : PS s T n A c root f k w W) (x : Int) (hx : Flat f n → x = root) : PS s T n A c root f (k + 1) w (W.setCell ⟨T, k, none⟩ (.int .i64 x)) := by
  have hz := h.z
  have hst := h.st
  obtain ⟨G, hG, hG2⟩ := h.g
  refine ⟨h.be.setCell (p := ⟨T, k, none⟩) (by show s ≤ T; omega) _, hst, by simpa using hz, (World.cell?_setCell_other _ _ _ _ (by intro e; injection e with e _; omega)).trans h.l, (World.cell?_setCell_other _ _ _ _ (by intro e; injection e with e _; omega)).trans h.r, (World.cell?_setCell_other _ _ _ _ (by intro e; injection e with e _; omega)).trans h.a,
    ⟨up G k x, row_set hG k x, fun hf i hi => ?_⟩, fun i => (World.frozen?_setCell _ _ _ _).trans (h.fr i)⟩
  unfold up
  split
  · exact hx hf
  · exact hG2 hf i (by omega)
def GetPost (T n : Nat) (root node : Int) (f : Nat → Nat → Int) (W : World) (e : Ending) (W' : World) : Prop :=
  (∃ v ok, e = .returned (.tuple #[.int .i64 v, .bool ok]) ∧ (node = 0 → v = root ∧ ok = true) ∧ (∀ i, node ≠ 0 → pFirst f node n = some i → ok = true ∧ W.cell? ⟨T, i, none⟩ = some (.int .i64 v))) ∧ Below W.heap.size W W'
set_option maxRecDepth 20000 in
set_option maxHeartbeats 4000000 in
theorem get_any (s T n c k : Nat) (f : Nat → Nat → Int) (root node : Int) (A : Option Addr) (w W : World) (hs : w.heap.size ≤ s) (hR : RI w A 5 n f) (hn : n ≤ 8) (hP : PS s T n A c root f k w W) :
    Calls Try.prog 103 #[.int .i64 node, .pointer (some ⟨s + 1, 0, none⟩), .pointer (some ⟨s, 0, none⟩), .pointer (some ⟨T + 1, 0, none⟩)] W (GetPost T n root node f W) := by
  have hl := hP.l
  have hr := hP.r
  by_cases h0 : node = 0
  · subst h0
    clear hP hR
    go_enter Try.func103, Try.ntmps103
    go_wp2
    go_ret2
    exact ⟨⟨root, true, rfl, fun _ => ⟨rfl, rfl⟩, fun i h => absurd rfl h⟩, Below.refl _ _⟩
  · have hne : (node == 0) = false := beq_eq_false_iff_ne.2 h0
    have HC := Lib.hid (find_any n c f node A W (hR.below (hP.be.mono hs)) hn)
    have HP := Lib.hid hP
    have H0 := Lib.hid h0
    cases hp : pFirst f node n with
    | none =>
      rw [hp] at HC
      have e0 : pI none = -1 := rfl
      rw [e0] at HC
      have HPF := Lib.hid hp
      clear hR hP hp e0 h0
      go_enter Try.func103, Try.ntmps103
      go_wp2_with fail
      refine HC.out.mono ?_
      rintro e w1 ⟨rfl, hb1⟩
      have HB1 := Lib.hid hb1
      clear hb1
      go_wp2
      go_ret2
      exact ⟨⟨0, false, rfl, fun h => absurd h H0.out, fun i _ h => by rw [HPF.out] at h; cases h⟩, HB1.out⟩
    | some i =>
      have hi := (pFirst_spec hp).1
      rw [hp] at HC
      have e0 : pI (some i) = (i : Int) := rfl
      rw [e0] at HC
      have hii : (i : Int) < (n : Int) := by omega
      have hin : (0 : Int) ≤ (i : Int) := by omega
      obtain ⟨G, hG, _⟩ := hP.g
      have HG := Lib.hid (hG i hi)
      have HPF := Lib.hid hp
      clear hR hP hp e0 h0 hG
      go_enter Try.func103, Try.ntmps103
      go_wp2_with fail
      refine HC.out.mono ?_
      rintro e w1 ⟨rfl, hb1⟩
      have HB1 := Lib.hid hb1
      have HP1 := Lib.hid (HP.out.below hb1)
      have ha := HP1.out.a
      have hc := (hb1.cell (p := ⟨T, i, none⟩) (by show T < _; have := HP.out.z; omega)).trans HG.out
      generalize G i = x at *
      clear hb1 hl hr
      go_wp2
      go_ret2
      exact ⟨⟨x, true, rfl, fun h => absurd h H0.out, fun j _ h => by rw [HPF.out] at h; injection h with h; subst h; exact ⟨rfl, HG.out⟩⟩, HB1.out⟩
end Go.Proofs.Ytljhocdbfbjpiaa
