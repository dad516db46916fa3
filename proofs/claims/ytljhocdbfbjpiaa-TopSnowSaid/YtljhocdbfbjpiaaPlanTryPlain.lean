/-
  The search for the best plan: what it computes, and what its memory holds.
-/
import Derived.Test.YtljhocdbfbjpiaaPlanUses
namespace Go.Proofs.Ytljhocdbfbjpiaa
open Go.RowKit

namespace Plan
def fit (gs : List Gun) (h : Hour) (left : Int) (set : Nat) : Bool := decide (uW gs set ≤ left) && decide (uP gs set ≤ h.power)
/-- The search through the hours, from these on: the most that was found, and the sets. -/
def tr (gs : List Gun) : List Hour → List Nat → Int → Int → Int × List Nat → Int × List Nat
  | [], pre, v, _, st => if st.1 < v then (v, pre) else st
  | h :: hs, pre, v, left, st => (List.range (2 ^ gs.length)).foldl (fun st set => if fit gs h left set = true then tr gs hs (pre ++ [set]) (v + uV gs h set) (left - uW gs set) st else st) st
def trStep (gs : List Gun) (h : Hour) (hs : List Hour) (pre : List Nat) (v left : Int) (st : Int × List Nat) (set : Nat) : Int × List Nat :=
  if fit gs h left set = true then tr gs hs (pre ++ [set]) (v + uV gs h set) (left - uW gs set) st else st
def trTo (gs : List Gun) (h : Hour) (hs : List Hour) (pre : List Nat) (v left : Int) (st : Int × List Nat) (s : Nat) : Int × List Nat := (List.range s).foldl (trStep gs h hs pre v left) st
theorem trTo_succ (gs : List Gun) (h : Hour) (hs : List Hour) (pre : List Nat) (v left : Int) (st : Int × List Nat) (s : Nat) : trTo gs h hs pre v left st (s + 1) = trStep gs h hs pre v left (trTo gs h hs pre v left st s) s := by
  unfold trTo; rw [List.range_succ, List.foldl_append]; rfl
theorem tr_cons (gs : List Gun) (h : Hour) (hs : List Hour) (pre : List Nat) (v left : Int) (st : Int × List Nat) : tr gs (h :: hs) pre v left st = trTo gs h hs pre v left st (2 ^ gs.length) := rfl
theorem u_bd {gs : List Gun} {hs : List Hour} (a : Acc gs hs) (k set : Nat) : (0 ≤ uV gs (hAt hs k) set ∧ uV gs (hAt hs k) set ≤ 5000000000) ∧ (0 ≤ uW gs set ∧ uW gs set ≤ 5000000000) ∧ (0 ≤ uP gs set ∧ uP gs set ≤ 5000000000) := ok_bd a k memL_ok
end Plan

/-- Nothing but these blocks has turned. -/
structure Kept (S : Nat → Prop) (w w' : World) : Prop where
  os : w'.os = w.os
  tape : w'.tape = w.tape
  output : w'.output = w.output
  size : w.heap.size ≤ w'.heap.size
  block : ∀ k, k < w.heap.size → ¬ S k → w'.heap[k]? = w.heap[k]?
theorem Kept.refl (S : Nat → Prop) (w : World) : Kept S w w := ⟨rfl, rfl, rfl, Nat.le_refl _, fun _ _ _ => rfl⟩
theorem Kept.trans {S : Nat → Prop} {a b c : World} (h1 : Kept S a b) (h2 : Kept S b c) : Kept S a c :=
  ⟨h2.os.trans h1.os, h2.tape.trans h1.tape, h2.output.trans h1.output, Nat.le_trans h1.size h2.size, fun k hk hs => (h2.block k (Nat.lt_of_lt_of_le hk h1.size) hs).trans (h1.block k hk hs)⟩
theorem Kept.of_below {S : Nat → Prop} {w w' : World} (h : Below w.heap.size w w') : Kept S w w' := ⟨h.os, h.tape, h.output, h.size, fun k hk _ => h.block k hk⟩
theorem Kept.set {S : Nat → Prop} {w w' : World} (h : Kept S w w') {p : Addr} (hp : S p.block) (v : Value) : Kept S w (w'.setCell p v) := by
  refine ⟨h.os, h.tape, h.output, by simpa using h.size, fun k hk hs => ?_⟩
  have hne : k ≠ p.block := fun e => hs (by rw [e]; exact hp)
  rw [Below.heap_setCell _ _ _ _ (by first | exact hne | exact hne.symm)]
  exact h.block k hk hs
theorem Kept.row {S : Nat → Prop} {w w' : World} (h : Kept S w w') {g : Nat} (hg : S g) (cs : Array Value) : Kept S w (w'.setRow g cs) := by
  refine ⟨h.os, h.tape, h.output, by simpa using h.size, fun k hk hs => ?_⟩
  have hne : k ≠ g := fun e => hs (by rw [e]; exact hg)
  rw [setRow_other _ _ _ _ hne]
  exact h.block k hk hs
theorem Kept.cell {S : Nat → Prop} {w w' : World} (h : Kept S w w') {b i : Nat} (hb : b < w.heap.size) (hs : ¬ S b) : w'.cell? ⟨b, i, none⟩ = w.cell? ⟨b, i, none⟩ := World.cell?_of_block (h.block b hb hs)
theorem Kept.frozen {S : Nat → Prop} {w w' : World} (h : Kept S w w') {b i : Nat} (hb : b < w.heap.size) (hs : ¬ S b) : w'.frozen? ⟨b, i, none⟩ = w.frozen? ⟨b, i, none⟩ := World.frozen?_of_block (h.block b hb hs)
theorem Kept.below {S : Nat → Prop} {w0 w w' : World} (h : Kept S w w') (h0 : Below w0.heap.size w0 w) (hS : ∀ k, S k → w0.heap.size ≤ k) : Below w0.heap.size w0 w' :=
  h0.trans ⟨h.os, h.tape, h.output, h.size, fun k hk => by
    have := h0.size
    exact h.block k (by omega) (fun e => by have := hS k e; omega)⟩

def nv (x : Nat) : Value := .int .i64 (x : Int)
/-- Where the search's variables and rows lie. -/
structure Lay where
  H : Nat
  M : Nat
  Bv : Nat
  Sv : Nat
  T : Nat
  F : Nat
  Bb : Nat
  Sb : Nat
  Tt : Nat
def Lay.own (L : Lay) (k : Nat) : Prop := k = L.M ∨ k = L.Bb ∨ k = L.Sb
def Lay.caps (L : Lay) : Array Value := #[.pointer (some ⟨L.H, 0, none⟩), .pointer (some ⟨L.M, 0, none⟩), .pointer (some ⟨L.Bv, 0, none⟩), .pointer (some ⟨L.Sv, 0, none⟩), .pointer (some ⟨L.T, 0, none⟩), .pointer (some ⟨L.F, 0, none⟩)]
/-- What the search never turns. -/
structure TryF (L : Lay) (gs : List Plan.Gun) (hs : List Plan.Hour) (B : Option Addr) (d : Nat) (W : World) : Prop where
  hv : W.cell? ⟨L.H, 0, none⟩ = some (.slice B hs.length d)
  bv : W.cell? ⟨L.Bv, 0, none⟩ = some (.slice (some ⟨L.Bb, 0, none⟩) hs.length hs.length)
  sv : W.cell? ⟨L.Sv, 0, none⟩ = some (.slice (some ⟨L.Sb, 0, none⟩) hs.length hs.length)
  tv : W.cell? ⟨L.T, 0, none⟩ = some (.slice (some ⟨L.Tt, 0, none⟩) hs.length hs.length)
  fv : W.cell? ⟨L.F, 0, none⟩ = some (.func (.func 25) #[] L.caps)
  rd : ∀ k, k < hs.length → ∃ b off, B = some ⟨b, off, none⟩ ∧ b < W.heap.size ∧ ¬ L.own b ∧ HourAt W b (off + k * 2) (Plan.hAt hs k)
  tab : ∀ k, k < hs.length → ∃ g c, W.cell? ⟨L.Tt, k, none⟩ = some (.slice (some ⟨g, 0, none⟩) (2 ^ gs.length) c) ∧ g < W.heap.size ∧ ¬ L.own g ∧ ∀ s, s < 2 ^ gs.length → UseAt W g (s * 3) (Plan.uV gs (Plan.hAt hs k) s) (Plan.uW gs s) (Plan.uP gs s)
  lt : ∀ k, (k = L.H ∨ k = L.Bv ∨ k = L.Sv ∨ k = L.T ∨ k = L.F ∨ k = L.Tt ∨ k = L.M ∨ k = L.Bb ∨ k = L.Sb) → k < W.heap.size
  ne : ∀ k, (k = L.H ∨ k = L.Bv ∨ k = L.Sv ∨ k = L.T ∨ k = L.F ∨ k = L.Tt) → ¬ L.own k
  d1 : L.M ≠ L.Bb
  d2 : L.M ≠ L.Sb
  d3 : L.Bb ≠ L.Sb
theorem TryF.kept {L : Lay} {gs : List Plan.Gun} {hs : List Plan.Hour} {B : Option Addr} {d : Nat} {W W' : World} (h : TryF L gs hs B d W) (hk : Kept L.own W W') : TryF L gs hs B d W' := by
  refine ⟨(hk.cell (h.lt _ (by simp)) (h.ne _ (by simp))).trans h.hv, (hk.cell (h.lt _ (by simp)) (h.ne _ (by simp))).trans h.bv, (hk.cell (h.lt _ (by simp)) (h.ne _ (by simp))).trans h.sv,
    (hk.cell (h.lt _ (by simp)) (h.ne _ (by simp))).trans h.tv, (hk.cell (h.lt _ (by simp)) (h.ne _ (by simp))).trans h.fv, fun k hkl => ?_, fun k hkl => ?_, fun k hkl => Nat.lt_of_lt_of_le (h.lt k hkl) hk.size, h.ne, h.d1, h.d2, h.d3⟩
  · obtain ⟨b, off, e, h1, h2, h3⟩ := h.rd k hkl
    exact ⟨b, off, e, Nat.lt_of_lt_of_le h1 hk.size, h2, (hk.cell h1 h2).trans h3.c0, (hk.cell h1 h2).trans h3.c1⟩
  · obtain ⟨g, c, e, h1, h2, h3⟩ := h.tab k hkl
    exact ⟨g, c, (hk.cell (h.lt _ (by simp)) (h.ne _ (by simp))).trans e, Nat.lt_of_lt_of_le h1 hk.size, h2, fun s hs => (h3 s hs).kept fun i => hk.cell h1 h2⟩
/-- What the search turns: the most, the best sets, the sets at hand. -/
structure TryV (L : Lay) (n : Nat) (W : World) (most : Int) (best sets : List Nat) : Prop where
  m : W.cell? ⟨L.M, 0, none⟩ = some (.int .i64 most)
  mf : W.frozen? ⟨L.M, 0, none⟩ = false
  b : W.heap[L.Bb]? = some (.cells (best.map nv).toArray 3 (0, 0))
  bl : best.length = n
  s : ∀ j, j < n → W.cell? ⟨L.Sb, j, none⟩ = some (nv (sets[j]?.getD 0))
  sf : ∀ j, W.frozen? ⟨L.Sb, j, none⟩ = false
  sl : sets.length = n
theorem TryV.below {L : Lay} {n : Nat} {W W' : World} {most : Int} {best sets : List Nat} (h : TryV L n W most best sets) (hm : L.M < W.heap.size) (hb : L.Bb < W.heap.size) (hs : L.Sb < W.heap.size) (hx : Below W.heap.size W W') : TryV L n W' most best sets :=
  ⟨(hx.cell (p := ⟨L.M, 0, none⟩) hm).trans h.m, (hx.frozen (p := ⟨L.M, 0, none⟩) hm).trans h.mf, (hx.block _ hb).trans h.b, h.bl, fun j hj => (hx.cell (p := ⟨L.Sb, j, none⟩) hs).trans (h.s j hj), fun j => (hx.frozen (p := ⟨L.Sb, j, none⟩) hs).trans (h.sf j), h.sl⟩
/-- A set is chosen. -/
theorem TryV.choose {L : Lay} {n : Nat} {W : World} {most : Int} {best sets : List Nat} (h : TryV L n W most best sets) (d2 : L.M ≠ L.Sb) (d3 : L.Bb ≠ L.Sb) {k : Nat} (hk : k < n) (x : Nat) : TryV L n (W.setCell ⟨L.Sb, k, none⟩ (nv x)) most best (sets.set k x) := by
  refine ⟨?_, ?_, ?_, h.bl, fun j hj => ?_, fun j => ?_, by rw [List.length_set]; exact h.sl⟩
  · rw [World.cell?_setCell_other _ _ _ _ (by intro e; injection e with e _; first | exact d2 e | exact d2 e.symm)]; exact h.m
  · rw [World.frozen?_setCell]; exact h.mf
  · rw [Below.heap_setCell _ _ _ _ (by first | exact d3 | exact d3.symm)]; exact h.b
  · by_cases e : j = k
    · subst e
      rw [cell_set_self, h.s j hj]
      have : j < sets.length := by rw [h.sl]; exact hj
      simp [this]
    · rw [World.cell?_setCell_other _ _ _ _ (by intro e'; injection e' with _ e'; first | exact e e' | exact e e'.symm), h.s j hj]
      rw [List.getElem?_set_ne (fun e' => e e'.symm)]
  · rw [World.frozen?_setCell]; exact h.sf j
/-- The sets at hand are the best. -/
theorem TryV.better {L : Lay} {n : Nat} {W : World} {most : Int} {best sets : List Nat} (h : TryV L n W most best sets) (d1 : L.M ≠ L.Bb) (d3 : L.Bb ≠ L.Sb) : TryV L n (W.setRow L.Bb (sets.map nv).toArray) most sets sets :=
  ⟨(World.cell?_of_block (a := ⟨L.M, 0, none⟩) (setRow_other _ _ _ _ d1)).trans h.m, (World.frozen?_of_block (a := ⟨L.M, 0, none⟩) (setRow_other _ _ _ _ d1)).trans h.mf, setRow_heap _ _ _ _ _ _ h.b, h.sl,
    fun j hj => (World.cell?_of_block (a := ⟨L.Sb, j, none⟩) (setRow_other _ _ _ _ d3.symm)).trans (h.s j hj), fun j => (World.frozen?_of_block (a := ⟨L.Sb, j, none⟩) (setRow_other _ _ _ _ d3.symm)).trans (h.sf j), h.sl⟩
theorem TryV.most {L : Lay} {n : Nat} {W : World} {most : Int} {best sets : List Nat} (h : TryV L n W most best sets) (d1 : L.M ≠ L.Bb) (d2 : L.M ≠ L.Sb) (v : Int) : TryV L n (W.setCell ⟨L.M, 0, none⟩ (.int .i64 v)) v best sets := by
  refine ⟨?_, ?_, ?_, h.bl, fun j hj => ?_, fun j => ?_, h.sl⟩
  · rw [cell_set_self, h.m]; rfl
  · rw [World.frozen?_setCell]; exact h.mf
  · rw [Below.heap_setCell _ _ _ _ (by first | exact d1 | exact d1.symm)]; exact h.b
  · rw [World.cell?_setCell_other _ _ _ _ (by intro e; injection e with e _; first | exact d2 e | exact d2 e.symm)]; exact h.s j hj
  · rw [World.frozen?_setCell]; exact h.sf j
end Go.Proofs.Ytljhocdbfbjpiaa
