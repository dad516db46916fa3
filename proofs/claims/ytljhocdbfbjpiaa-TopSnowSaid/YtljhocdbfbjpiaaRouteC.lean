/-
  The memory of the search for the shifts.
-/
import Derived.Test.YtljhocdbfbjpiaaRouteB
import Derived.Test.YtljhocdbfbjpiaaPlanTry
import Derived.Test.YtljhocdbfbjpiaaRescC
namespace Go.Proofs.Ytljhocdbfbjpiaa
open Go.RowKit

structure Sh where
  g : Int
  r : Int
  f : Int
  t : Int
def Sh.zero : Sh := ⟨0, 0, 0, 0⟩
/-- What the search turns: the shifts of the two tasks, the best ones, and the end. -/
structure RP where
  p0 : Sh
  p1 : Sh
  b0 : Sh
  b1 : Sh
  e : Int
def shC (s : Sh) : List Value := [.int .i64 s.g, .int .i64 s.r, .int .i64 s.f, .int .i64 s.t]
/-- Where the search's memory lies. -/
structure SL where
  S : Nat
  b : Nat
  q : Nat
  cl : Nat
  pl : Nat
  bs : Nat
  r0 : Nat
  r1 : Nat
  k0 : Nat
  k1 : Nat
structure SF (L : SL) (W : World) : Prop where
  s0 : W.cell? ⟨L.S, 0, none⟩ = some (.slice (some ⟨L.b, 0, none⟩) 2 2)
  s1 : W.cell? ⟨L.S, 1, none⟩ = some (.slice (some ⟨L.q, 0, none⟩) 2 2)
  s2 : W.cell? ⟨L.S, 2, none⟩ = some (.slice (some ⟨L.cl, 0, none⟩) 2 2)
  s3 : W.cell? ⟨L.S, 3, none⟩ = some (.slice (some ⟨L.pl, 0, none⟩) 2 2)
  s4 : W.cell? ⟨L.S, 4, none⟩ = some (.slice (some ⟨L.bs, 0, none⟩) 2 2)
  tsk : Tsk W L.b
  w0 : W.cell? ⟨L.q, 0, none⟩ = some (.bool false)
  w1 : W.cell? ⟨L.q, 1, none⟩ = some (.bool false)
  c0 : W.cell? ⟨L.cl, 0, none⟩ = some (.slice (some ⟨L.r0, 0, none⟩) 2 L.k0)
  c1 : W.cell? ⟨L.cl, 1, none⟩ = some (.slice (some ⟨L.r1, 0, none⟩) 2 L.k1)
  x00 : W.cell? ⟨L.r0, 0, none⟩ = some (.bool false)
  x01 : W.cell? ⟨L.r0, 1, none⟩ = some (.bool false)
  x10 : W.cell? ⟨L.r1, 0, none⟩ = some (.bool false)
  x11 : W.cell? ⟨L.r1, 1, none⟩ = some (.bool false)
  f5 : W.frozen? ⟨L.S, 5, none⟩ = false
  fp : ∀ k, W.frozen? ⟨L.pl, k, none⟩ = false
  zS : L.S < W.heap.size
  zb : L.b < W.heap.size
  zq : L.q < W.heap.size
  zc : L.cl < W.heap.size
  zp : L.pl < W.heap.size
  zs : L.bs < W.heap.size
  z0 : L.r0 < W.heap.size
  z1 : L.r1 < W.heap.size
/-- The rows that the search turns lie apart from all others. -/
structure SN (L : SL) : Prop where
  pS : L.pl ≠ L.S
  pb : L.pl ≠ L.b
  pq : L.pl ≠ L.q
  pc : L.pl ≠ L.cl
  ps : L.pl ≠ L.bs
  p0 : L.pl ≠ L.r0
  p1 : L.pl ≠ L.r1
  sS : L.bs ≠ L.S
  sb : L.bs ≠ L.b
  sq : L.bs ≠ L.q
  sc : L.bs ≠ L.cl
  s0 : L.bs ≠ L.r0
  s1 : L.bs ≠ L.r1
  Sb : L.S ≠ L.b
  Sq : L.S ≠ L.q
  Sc : L.S ≠ L.cl
  S0 : L.S ≠ L.r0
  S1 : L.S ≠ L.r1
structure SV (L : SL) (W : World) (t : RP) : Prop where
  e : W.cell? ⟨L.S, 5, none⟩ = some (.int .i64 t.e)
  p00 : W.cell? ⟨L.pl, 0, none⟩ = some (.int .i64 t.p0.g)
  p01 : W.cell? ⟨L.pl, 1, none⟩ = some (.int .i64 t.p0.r)
  p02 : W.cell? ⟨L.pl, 2, none⟩ = some (.int .i64 t.p0.f)
  p03 : W.cell? ⟨L.pl, 3, none⟩ = some (.int .i64 t.p0.t)
  p10 : W.cell? ⟨L.pl, 4, none⟩ = some (.int .i64 t.p1.g)
  p11 : W.cell? ⟨L.pl, 5, none⟩ = some (.int .i64 t.p1.r)
  p12 : W.cell? ⟨L.pl, 6, none⟩ = some (.int .i64 t.p1.f)
  p13 : W.cell? ⟨L.pl, 7, none⟩ = some (.int .i64 t.p1.t)
  b : W.heap[L.bs]? = some (.cells (shC t.b0 ++ shC t.b1).toArray 163 (0, 0))
/-- All of it. -/
structure SP (L : SL) (B : Nat) (w W : World) (t : RP) : Prop where
  be : Below B w W
  lS : B ≤ L.S
  lp : B ≤ L.pl
  ls : B ≤ L.bs
  n : SN L
  f : SF L W
  v : SV L W t

theorem SP.on {L : SL} {B : Nat} {w W W' : World} {t : RP} (h : SP L B w W t) (hb : Below W.heap.size W W') (hB : B ≤ W.heap.size) : SP L B w W' t := by
  have hz := hb.size
  exact ⟨h.be.trans (hb.mono hB), h.lS, h.lp, h.ls, h.n,
    ⟨(hb.cell (p := ⟨L.S, 0, none⟩) h.f.zS).trans h.f.s0, (hb.cell (p := ⟨L.S, 1, none⟩) h.f.zS).trans h.f.s1, (hb.cell (p := ⟨L.S, 2, none⟩) h.f.zS).trans h.f.s2, (hb.cell (p := ⟨L.S, 3, none⟩) h.f.zS).trans h.f.s3, (hb.cell (p := ⟨L.S, 4, none⟩) h.f.zS).trans h.f.s4, h.f.tsk.on h.f.zb hb, (hb.cell (p := ⟨L.q, 0, none⟩) h.f.zq).trans h.f.w0, (hb.cell (p := ⟨L.q, 1, none⟩) h.f.zq).trans h.f.w1, (hb.cell (p := ⟨L.cl, 0, none⟩) h.f.zc).trans h.f.c0, (hb.cell (p := ⟨L.cl, 1, none⟩) h.f.zc).trans h.f.c1, (hb.cell (p := ⟨L.r0, 0, none⟩) h.f.z0).trans h.f.x00, (hb.cell (p := ⟨L.r0, 1, none⟩) h.f.z0).trans h.f.x01, (hb.cell (p := ⟨L.r1, 0, none⟩) h.f.z1).trans h.f.x10, (hb.cell (p := ⟨L.r1, 1, none⟩) h.f.z1).trans h.f.x11, (hb.frozen (p := ⟨L.S, 5, none⟩) h.f.zS).trans h.f.f5, fun k => (hb.frozen (p := ⟨L.pl, k, none⟩) h.f.zp).trans (h.f.fp k), Nat.lt_of_lt_of_le h.f.zS hz, Nat.lt_of_lt_of_le h.f.zb hz, Nat.lt_of_lt_of_le h.f.zq hz, Nat.lt_of_lt_of_le h.f.zc hz, Nat.lt_of_lt_of_le h.f.zp hz, Nat.lt_of_lt_of_le h.f.zs hz, Nat.lt_of_lt_of_le h.f.z0 hz, Nat.lt_of_lt_of_le h.f.z1 hz⟩,
    ⟨(hb.cell (p := ⟨L.S, 5, none⟩) h.f.zS).trans h.v.e, (hb.cell (p := ⟨L.pl, 0, none⟩) h.f.zp).trans h.v.p00, (hb.cell (p := ⟨L.pl, 1, none⟩) h.f.zp).trans h.v.p01, (hb.cell (p := ⟨L.pl, 2, none⟩) h.f.zp).trans h.v.p02, (hb.cell (p := ⟨L.pl, 3, none⟩) h.f.zp).trans h.v.p03, (hb.cell (p := ⟨L.pl, 4, none⟩) h.f.zp).trans h.v.p10, (hb.cell (p := ⟨L.pl, 5, none⟩) h.f.zp).trans h.v.p11, (hb.cell (p := ⟨L.pl, 6, none⟩) h.f.zp).trans h.v.p12, (hb.cell (p := ⟨L.pl, 7, none⟩) h.f.zp).trans h.v.p13, (hb.block L.bs h.f.zs).trans h.v.b⟩⟩
theorem sp_o {W : World} {a b i j : Nat} (h : a ≠ b) (v : Value) : (W.setCell ⟨a, i, none⟩ v).cell? ⟨b, j, none⟩ = W.cell? ⟨b, j, none⟩ := World.cell?_setCell_other _ _ _ _ (by intro e; injection e with e _; first | exact h e | exact h e.symm)
theorem sp_i {W : World} {a i j : Nat} (h : i ≠ j) (v : Value) : (W.setCell ⟨a, i, none⟩ v).cell? ⟨a, j, none⟩ = W.cell? ⟨a, j, none⟩ := World.cell?_setCell_other _ _ _ _ (by intro e; injection e with _ e; first | exact h e | exact h e.symm)
theorem sp_h {W : World} {a b i : Nat} (h : a ≠ b) (v : Value) : (W.setCell ⟨a, i, none⟩ v).heap[b]? = W.heap[b]? := Below.heap_setCell _ _ _ _ (by first | exact h | exact h.symm)
theorem Tsk.set {W : World} {a b i : Nat} (h : Tsk W b) (hn : a ≠ b) (v : Value) : Tsk (W.setCell ⟨a, i, none⟩ v) b := ⟨(sp_o hn v).trans h.a0, (sp_o hn v).trans h.a1, (sp_o hn v).trans h.a2, (sp_o hn v).trans h.a3, (sp_o hn v).trans h.b0, (sp_o hn v).trans h.b1, (sp_o hn v).trans h.b2, (sp_o hn v).trans h.b3⟩
theorem Tsk.row {W : World} {a b : Nat} (h : Tsk W b) (hn : a ≠ b) (cs : Array Value) : Tsk (W.setRow a cs) b := ⟨(World.cell?_of_block (a := ⟨b, 0, none⟩) (setRow_other _ _ _ _ hn.symm)).trans h.a0, (World.cell?_of_block (a := ⟨b, 1, none⟩) (setRow_other _ _ _ _ hn.symm)).trans h.a1, (World.cell?_of_block (a := ⟨b, 2, none⟩) (setRow_other _ _ _ _ hn.symm)).trans h.a2, (World.cell?_of_block (a := ⟨b, 3, none⟩) (setRow_other _ _ _ _ hn.symm)).trans h.a3, (World.cell?_of_block (a := ⟨b, 4, none⟩) (setRow_other _ _ _ _ hn.symm)).trans h.b0, (World.cell?_of_block (a := ⟨b, 5, none⟩) (setRow_other _ _ _ _ hn.symm)).trans h.b1, (World.cell?_of_block (a := ⟨b, 6, none⟩) (setRow_other _ _ _ _ hn.symm)).trans h.b2, (World.cell?_of_block (a := ⟨b, 7, none⟩) (setRow_other _ _ _ _ hn.symm)).trans h.b3⟩
theorem SP.setE {L : SL} {B : Nat} {w W : World} {t : RP} (h : SP L B w W t) (v : Int) : SP L B w (W.setCell ⟨L.S, 5, none⟩ (.int .i64 v)) { t with e := v } :=
  ⟨h.be.setCell h.lS _, h.lS, h.lp, h.ls, h.n, ⟨(sp_i (by decide) _).trans h.f.s0, (sp_i (by decide) _).trans h.f.s1, (sp_i (by decide) _).trans h.f.s2, (sp_i (by decide) _).trans h.f.s3, (sp_i (by decide) _).trans h.f.s4, h.f.tsk.set h.n.Sb _, (sp_o h.n.Sq _).trans h.f.w0, (sp_o h.n.Sq _).trans h.f.w1, (sp_o h.n.Sc _).trans h.f.c0, (sp_o h.n.Sc _).trans h.f.c1, (sp_o h.n.S0 _).trans h.f.x00, (sp_o h.n.S0 _).trans h.f.x01, (sp_o h.n.S1 _).trans h.f.x10, (sp_o h.n.S1 _).trans h.f.x11, (World.frozen?_setCell _ _ _ _).trans h.f.f5, fun k => (World.frozen?_setCell _ _ _ _).trans (h.f.fp k), by rw [World.size_setCell]; exact h.f.zS, by rw [World.size_setCell]; exact h.f.zb, by rw [World.size_setCell]; exact h.f.zq, by rw [World.size_setCell]; exact h.f.zc, by rw [World.size_setCell]; exact h.f.zp, by rw [World.size_setCell]; exact h.f.zs, by rw [World.size_setCell]; exact h.f.z0, by rw [World.size_setCell]; exact h.f.z1⟩,
    ⟨by rw [cell_set_self, h.v.e]; rfl, (sp_o h.n.pS.symm _).trans h.v.p00, (sp_o h.n.pS.symm _).trans h.v.p01, (sp_o h.n.pS.symm _).trans h.v.p02, (sp_o h.n.pS.symm _).trans h.v.p03, (sp_o h.n.pS.symm _).trans h.v.p10, (sp_o h.n.pS.symm _).trans h.v.p11, (sp_o h.n.pS.symm _).trans h.v.p12, (sp_o h.n.pS.symm _).trans h.v.p13, (sp_h h.n.sS.symm _).trans h.v.b⟩⟩
theorem SP.set00 {L : SL} {B : Nat} {w W : World} {t : RP} (h : SP L B w W t) (v : Int) : SP L B w (W.setCell ⟨L.pl, 0, none⟩ (.int .i64 v)) { t with p0 := { t.p0 with g := v } } :=
  ⟨h.be.setCell h.lp _, h.lS, h.lp, h.ls, h.n, ⟨(sp_o h.n.pS _).trans h.f.s0, (sp_o h.n.pS _).trans h.f.s1, (sp_o h.n.pS _).trans h.f.s2, (sp_o h.n.pS _).trans h.f.s3, (sp_o h.n.pS _).trans h.f.s4, h.f.tsk.set h.n.pb _, (sp_o h.n.pq _).trans h.f.w0, (sp_o h.n.pq _).trans h.f.w1, (sp_o h.n.pc _).trans h.f.c0, (sp_o h.n.pc _).trans h.f.c1, (sp_o h.n.p0 _).trans h.f.x00, (sp_o h.n.p0 _).trans h.f.x01, (sp_o h.n.p1 _).trans h.f.x10, (sp_o h.n.p1 _).trans h.f.x11, (World.frozen?_setCell _ _ _ _).trans h.f.f5, fun k => (World.frozen?_setCell _ _ _ _).trans (h.f.fp k), by rw [World.size_setCell]; exact h.f.zS, by rw [World.size_setCell]; exact h.f.zb, by rw [World.size_setCell]; exact h.f.zq, by rw [World.size_setCell]; exact h.f.zc, by rw [World.size_setCell]; exact h.f.zp, by rw [World.size_setCell]; exact h.f.zs, by rw [World.size_setCell]; exact h.f.z0, by rw [World.size_setCell]; exact h.f.z1⟩,
    ⟨(sp_o h.n.pS _).trans h.v.e, by rw [cell_set_self, h.v.p00]; rfl, (sp_i (by decide) _).trans h.v.p01, (sp_i (by decide) _).trans h.v.p02, (sp_i (by decide) _).trans h.v.p03, (sp_i (by decide) _).trans h.v.p10, (sp_i (by decide) _).trans h.v.p11, (sp_i (by decide) _).trans h.v.p12, (sp_i (by decide) _).trans h.v.p13, (sp_h h.n.ps _).trans h.v.b⟩⟩
theorem SP.set01 {L : SL} {B : Nat} {w W : World} {t : RP} (h : SP L B w W t) (v : Int) : SP L B w (W.setCell ⟨L.pl, 1, none⟩ (.int .i64 v)) { t with p0 := { t.p0 with r := v } } :=
  ⟨h.be.setCell h.lp _, h.lS, h.lp, h.ls, h.n, ⟨(sp_o h.n.pS _).trans h.f.s0, (sp_o h.n.pS _).trans h.f.s1, (sp_o h.n.pS _).trans h.f.s2, (sp_o h.n.pS _).trans h.f.s3, (sp_o h.n.pS _).trans h.f.s4, h.f.tsk.set h.n.pb _, (sp_o h.n.pq _).trans h.f.w0, (sp_o h.n.pq _).trans h.f.w1, (sp_o h.n.pc _).trans h.f.c0, (sp_o h.n.pc _).trans h.f.c1, (sp_o h.n.p0 _).trans h.f.x00, (sp_o h.n.p0 _).trans h.f.x01, (sp_o h.n.p1 _).trans h.f.x10, (sp_o h.n.p1 _).trans h.f.x11, (World.frozen?_setCell _ _ _ _).trans h.f.f5, fun k => (World.frozen?_setCell _ _ _ _).trans (h.f.fp k), by rw [World.size_setCell]; exact h.f.zS, by rw [World.size_setCell]; exact h.f.zb, by rw [World.size_setCell]; exact h.f.zq, by rw [World.size_setCell]; exact h.f.zc, by rw [World.size_setCell]; exact h.f.zp, by rw [World.size_setCell]; exact h.f.zs, by rw [World.size_setCell]; exact h.f.z0, by rw [World.size_setCell]; exact h.f.z1⟩,
    ⟨(sp_o h.n.pS _).trans h.v.e, (sp_i (by decide) _).trans h.v.p00, by rw [cell_set_self, h.v.p01]; rfl, (sp_i (by decide) _).trans h.v.p02, (sp_i (by decide) _).trans h.v.p03, (sp_i (by decide) _).trans h.v.p10, (sp_i (by decide) _).trans h.v.p11, (sp_i (by decide) _).trans h.v.p12, (sp_i (by decide) _).trans h.v.p13, (sp_h h.n.ps _).trans h.v.b⟩⟩
theorem SP.set02 {L : SL} {B : Nat} {w W : World} {t : RP} (h : SP L B w W t) (v : Int) : SP L B w (W.setCell ⟨L.pl, 2, none⟩ (.int .i64 v)) { t with p0 := { t.p0 with f := v } } :=
  ⟨h.be.setCell h.lp _, h.lS, h.lp, h.ls, h.n, ⟨(sp_o h.n.pS _).trans h.f.s0, (sp_o h.n.pS _).trans h.f.s1, (sp_o h.n.pS _).trans h.f.s2, (sp_o h.n.pS _).trans h.f.s3, (sp_o h.n.pS _).trans h.f.s4, h.f.tsk.set h.n.pb _, (sp_o h.n.pq _).trans h.f.w0, (sp_o h.n.pq _).trans h.f.w1, (sp_o h.n.pc _).trans h.f.c0, (sp_o h.n.pc _).trans h.f.c1, (sp_o h.n.p0 _).trans h.f.x00, (sp_o h.n.p0 _).trans h.f.x01, (sp_o h.n.p1 _).trans h.f.x10, (sp_o h.n.p1 _).trans h.f.x11, (World.frozen?_setCell _ _ _ _).trans h.f.f5, fun k => (World.frozen?_setCell _ _ _ _).trans (h.f.fp k), by rw [World.size_setCell]; exact h.f.zS, by rw [World.size_setCell]; exact h.f.zb, by rw [World.size_setCell]; exact h.f.zq, by rw [World.size_setCell]; exact h.f.zc, by rw [World.size_setCell]; exact h.f.zp, by rw [World.size_setCell]; exact h.f.zs, by rw [World.size_setCell]; exact h.f.z0, by rw [World.size_setCell]; exact h.f.z1⟩,
    ⟨(sp_o h.n.pS _).trans h.v.e, (sp_i (by decide) _).trans h.v.p00, (sp_i (by decide) _).trans h.v.p01, by rw [cell_set_self, h.v.p02]; rfl, (sp_i (by decide) _).trans h.v.p03, (sp_i (by decide) _).trans h.v.p10, (sp_i (by decide) _).trans h.v.p11, (sp_i (by decide) _).trans h.v.p12, (sp_i (by decide) _).trans h.v.p13, (sp_h h.n.ps _).trans h.v.b⟩⟩
theorem SP.set03 {L : SL} {B : Nat} {w W : World} {t : RP} (h : SP L B w W t) (v : Int) : SP L B w (W.setCell ⟨L.pl, 3, none⟩ (.int .i64 v)) { t with p0 := { t.p0 with t := v } } :=
  ⟨h.be.setCell h.lp _, h.lS, h.lp, h.ls, h.n, ⟨(sp_o h.n.pS _).trans h.f.s0, (sp_o h.n.pS _).trans h.f.s1, (sp_o h.n.pS _).trans h.f.s2, (sp_o h.n.pS _).trans h.f.s3, (sp_o h.n.pS _).trans h.f.s4, h.f.tsk.set h.n.pb _, (sp_o h.n.pq _).trans h.f.w0, (sp_o h.n.pq _).trans h.f.w1, (sp_o h.n.pc _).trans h.f.c0, (sp_o h.n.pc _).trans h.f.c1, (sp_o h.n.p0 _).trans h.f.x00, (sp_o h.n.p0 _).trans h.f.x01, (sp_o h.n.p1 _).trans h.f.x10, (sp_o h.n.p1 _).trans h.f.x11, (World.frozen?_setCell _ _ _ _).trans h.f.f5, fun k => (World.frozen?_setCell _ _ _ _).trans (h.f.fp k), by rw [World.size_setCell]; exact h.f.zS, by rw [World.size_setCell]; exact h.f.zb, by rw [World.size_setCell]; exact h.f.zq, by rw [World.size_setCell]; exact h.f.zc, by rw [World.size_setCell]; exact h.f.zp, by rw [World.size_setCell]; exact h.f.zs, by rw [World.size_setCell]; exact h.f.z0, by rw [World.size_setCell]; exact h.f.z1⟩,
    ⟨(sp_o h.n.pS _).trans h.v.e, (sp_i (by decide) _).trans h.v.p00, (sp_i (by decide) _).trans h.v.p01, (sp_i (by decide) _).trans h.v.p02, by rw [cell_set_self, h.v.p03]; rfl, (sp_i (by decide) _).trans h.v.p10, (sp_i (by decide) _).trans h.v.p11, (sp_i (by decide) _).trans h.v.p12, (sp_i (by decide) _).trans h.v.p13, (sp_h h.n.ps _).trans h.v.b⟩⟩
theorem SP.set10 {L : SL} {B : Nat} {w W : World} {t : RP} (h : SP L B w W t) (v : Int) : SP L B w (W.setCell ⟨L.pl, 4, none⟩ (.int .i64 v)) { t with p1 := { t.p1 with g := v } } :=
  ⟨h.be.setCell h.lp _, h.lS, h.lp, h.ls, h.n, ⟨(sp_o h.n.pS _).trans h.f.s0, (sp_o h.n.pS _).trans h.f.s1, (sp_o h.n.pS _).trans h.f.s2, (sp_o h.n.pS _).trans h.f.s3, (sp_o h.n.pS _).trans h.f.s4, h.f.tsk.set h.n.pb _, (sp_o h.n.pq _).trans h.f.w0, (sp_o h.n.pq _).trans h.f.w1, (sp_o h.n.pc _).trans h.f.c0, (sp_o h.n.pc _).trans h.f.c1, (sp_o h.n.p0 _).trans h.f.x00, (sp_o h.n.p0 _).trans h.f.x01, (sp_o h.n.p1 _).trans h.f.x10, (sp_o h.n.p1 _).trans h.f.x11, (World.frozen?_setCell _ _ _ _).trans h.f.f5, fun k => (World.frozen?_setCell _ _ _ _).trans (h.f.fp k), by rw [World.size_setCell]; exact h.f.zS, by rw [World.size_setCell]; exact h.f.zb, by rw [World.size_setCell]; exact h.f.zq, by rw [World.size_setCell]; exact h.f.zc, by rw [World.size_setCell]; exact h.f.zp, by rw [World.size_setCell]; exact h.f.zs, by rw [World.size_setCell]; exact h.f.z0, by rw [World.size_setCell]; exact h.f.z1⟩,
    ⟨(sp_o h.n.pS _).trans h.v.e, (sp_i (by decide) _).trans h.v.p00, (sp_i (by decide) _).trans h.v.p01, (sp_i (by decide) _).trans h.v.p02, (sp_i (by decide) _).trans h.v.p03, by rw [cell_set_self, h.v.p10]; rfl, (sp_i (by decide) _).trans h.v.p11, (sp_i (by decide) _).trans h.v.p12, (sp_i (by decide) _).trans h.v.p13, (sp_h h.n.ps _).trans h.v.b⟩⟩
theorem SP.set11 {L : SL} {B : Nat} {w W : World} {t : RP} (h : SP L B w W t) (v : Int) : SP L B w (W.setCell ⟨L.pl, 5, none⟩ (.int .i64 v)) { t with p1 := { t.p1 with r := v } } :=
  ⟨h.be.setCell h.lp _, h.lS, h.lp, h.ls, h.n, ⟨(sp_o h.n.pS _).trans h.f.s0, (sp_o h.n.pS _).trans h.f.s1, (sp_o h.n.pS _).trans h.f.s2, (sp_o h.n.pS _).trans h.f.s3, (sp_o h.n.pS _).trans h.f.s4, h.f.tsk.set h.n.pb _, (sp_o h.n.pq _).trans h.f.w0, (sp_o h.n.pq _).trans h.f.w1, (sp_o h.n.pc _).trans h.f.c0, (sp_o h.n.pc _).trans h.f.c1, (sp_o h.n.p0 _).trans h.f.x00, (sp_o h.n.p0 _).trans h.f.x01, (sp_o h.n.p1 _).trans h.f.x10, (sp_o h.n.p1 _).trans h.f.x11, (World.frozen?_setCell _ _ _ _).trans h.f.f5, fun k => (World.frozen?_setCell _ _ _ _).trans (h.f.fp k), by rw [World.size_setCell]; exact h.f.zS, by rw [World.size_setCell]; exact h.f.zb, by rw [World.size_setCell]; exact h.f.zq, by rw [World.size_setCell]; exact h.f.zc, by rw [World.size_setCell]; exact h.f.zp, by rw [World.size_setCell]; exact h.f.zs, by rw [World.size_setCell]; exact h.f.z0, by rw [World.size_setCell]; exact h.f.z1⟩,
    ⟨(sp_o h.n.pS _).trans h.v.e, (sp_i (by decide) _).trans h.v.p00, (sp_i (by decide) _).trans h.v.p01, (sp_i (by decide) _).trans h.v.p02, (sp_i (by decide) _).trans h.v.p03, (sp_i (by decide) _).trans h.v.p10, by rw [cell_set_self, h.v.p11]; rfl, (sp_i (by decide) _).trans h.v.p12, (sp_i (by decide) _).trans h.v.p13, (sp_h h.n.ps _).trans h.v.b⟩⟩
theorem SP.set12 {L : SL} {B : Nat} {w W : World} {t : RP} (h : SP L B w W t) (v : Int) : SP L B w (W.setCell ⟨L.pl, 6, none⟩ (.int .i64 v)) { t with p1 := { t.p1 with f := v } } :=
  ⟨h.be.setCell h.lp _, h.lS, h.lp, h.ls, h.n, ⟨(sp_o h.n.pS _).trans h.f.s0, (sp_o h.n.pS _).trans h.f.s1, (sp_o h.n.pS _).trans h.f.s2, (sp_o h.n.pS _).trans h.f.s3, (sp_o h.n.pS _).trans h.f.s4, h.f.tsk.set h.n.pb _, (sp_o h.n.pq _).trans h.f.w0, (sp_o h.n.pq _).trans h.f.w1, (sp_o h.n.pc _).trans h.f.c0, (sp_o h.n.pc _).trans h.f.c1, (sp_o h.n.p0 _).trans h.f.x00, (sp_o h.n.p0 _).trans h.f.x01, (sp_o h.n.p1 _).trans h.f.x10, (sp_o h.n.p1 _).trans h.f.x11, (World.frozen?_setCell _ _ _ _).trans h.f.f5, fun k => (World.frozen?_setCell _ _ _ _).trans (h.f.fp k), by rw [World.size_setCell]; exact h.f.zS, by rw [World.size_setCell]; exact h.f.zb, by rw [World.size_setCell]; exact h.f.zq, by rw [World.size_setCell]; exact h.f.zc, by rw [World.size_setCell]; exact h.f.zp, by rw [World.size_setCell]; exact h.f.zs, by rw [World.size_setCell]; exact h.f.z0, by rw [World.size_setCell]; exact h.f.z1⟩,
    ⟨(sp_o h.n.pS _).trans h.v.e, (sp_i (by decide) _).trans h.v.p00, (sp_i (by decide) _).trans h.v.p01, (sp_i (by decide) _).trans h.v.p02, (sp_i (by decide) _).trans h.v.p03, (sp_i (by decide) _).trans h.v.p10, (sp_i (by decide) _).trans h.v.p11, by rw [cell_set_self, h.v.p12]; rfl, (sp_i (by decide) _).trans h.v.p13, (sp_h h.n.ps _).trans h.v.b⟩⟩
theorem SP.set13 {L : SL} {B : Nat} {w W : World} {t : RP} (h : SP L B w W t) (v : Int) : SP L B w (W.setCell ⟨L.pl, 7, none⟩ (.int .i64 v)) { t with p1 := { t.p1 with t := v } } :=
  ⟨h.be.setCell h.lp _, h.lS, h.lp, h.ls, h.n, ⟨(sp_o h.n.pS _).trans h.f.s0, (sp_o h.n.pS _).trans h.f.s1, (sp_o h.n.pS _).trans h.f.s2, (sp_o h.n.pS _).trans h.f.s3, (sp_o h.n.pS _).trans h.f.s4, h.f.tsk.set h.n.pb _, (sp_o h.n.pq _).trans h.f.w0, (sp_o h.n.pq _).trans h.f.w1, (sp_o h.n.pc _).trans h.f.c0, (sp_o h.n.pc _).trans h.f.c1, (sp_o h.n.p0 _).trans h.f.x00, (sp_o h.n.p0 _).trans h.f.x01, (sp_o h.n.p1 _).trans h.f.x10, (sp_o h.n.p1 _).trans h.f.x11, (World.frozen?_setCell _ _ _ _).trans h.f.f5, fun k => (World.frozen?_setCell _ _ _ _).trans (h.f.fp k), by rw [World.size_setCell]; exact h.f.zS, by rw [World.size_setCell]; exact h.f.zb, by rw [World.size_setCell]; exact h.f.zq, by rw [World.size_setCell]; exact h.f.zc, by rw [World.size_setCell]; exact h.f.zp, by rw [World.size_setCell]; exact h.f.zs, by rw [World.size_setCell]; exact h.f.z0, by rw [World.size_setCell]; exact h.f.z1⟩,
    ⟨(sp_o h.n.pS _).trans h.v.e, (sp_i (by decide) _).trans h.v.p00, (sp_i (by decide) _).trans h.v.p01, (sp_i (by decide) _).trans h.v.p02, (sp_i (by decide) _).trans h.v.p03, (sp_i (by decide) _).trans h.v.p10, (sp_i (by decide) _).trans h.v.p11, (sp_i (by decide) _).trans h.v.p12, by rw [cell_set_self, h.v.p13]; rfl, (sp_h h.n.ps _).trans h.v.b⟩⟩
theorem SP.better {L : SL} {B : Nat} {w W : World} {t : RP} (h : SP L B w W t) : SP L B w (W.setRow L.bs (shC t.p0 ++ shC t.p1).toArray) { t with b0 := t.p0, b1 := t.p1 } := by
  refine ⟨?_, h.lS, h.lp, h.ls, h.n, ⟨(World.cell?_of_block (a := ⟨L.S, 0, none⟩) (setRow_other _ _ _ _ h.n.sS.symm)).trans h.f.s0, (World.cell?_of_block (a := ⟨L.S, 1, none⟩) (setRow_other _ _ _ _ h.n.sS.symm)).trans h.f.s1, (World.cell?_of_block (a := ⟨L.S, 2, none⟩) (setRow_other _ _ _ _ h.n.sS.symm)).trans h.f.s2, (World.cell?_of_block (a := ⟨L.S, 3, none⟩) (setRow_other _ _ _ _ h.n.sS.symm)).trans h.f.s3, (World.cell?_of_block (a := ⟨L.S, 4, none⟩) (setRow_other _ _ _ _ h.n.sS.symm)).trans h.f.s4, h.f.tsk.row h.n.sb _, (World.cell?_of_block (a := ⟨L.q, 0, none⟩) (setRow_other _ _ _ _ h.n.sq.symm)).trans h.f.w0, (World.cell?_of_block (a := ⟨L.q, 1, none⟩) (setRow_other _ _ _ _ h.n.sq.symm)).trans h.f.w1, (World.cell?_of_block (a := ⟨L.cl, 0, none⟩) (setRow_other _ _ _ _ h.n.sc.symm)).trans h.f.c0, (World.cell?_of_block (a := ⟨L.cl, 1, none⟩) (setRow_other _ _ _ _ h.n.sc.symm)).trans h.f.c1, (World.cell?_of_block (a := ⟨L.r0, 0, none⟩) (setRow_other _ _ _ _ h.n.s0.symm)).trans h.f.x00, (World.cell?_of_block (a := ⟨L.r0, 1, none⟩) (setRow_other _ _ _ _ h.n.s0.symm)).trans h.f.x01, (World.cell?_of_block (a := ⟨L.r1, 0, none⟩) (setRow_other _ _ _ _ h.n.s1.symm)).trans h.f.x10, (World.cell?_of_block (a := ⟨L.r1, 1, none⟩) (setRow_other _ _ _ _ h.n.s1.symm)).trans h.f.x11, (World.frozen?_of_block (a := ⟨L.S, 5, none⟩) (setRow_other _ _ _ _ h.n.sS.symm)).trans h.f.f5, fun k => (World.frozen?_of_block (a := ⟨L.pl, k, none⟩) (setRow_other _ _ _ _ h.n.ps)).trans (h.f.fp k), by simpa using h.f.zS, by simpa using h.f.zb, by simpa using h.f.zq, by simpa using h.f.zc, by simpa using h.f.zp, by simpa using h.f.zs, by simpa using h.f.z0, by simpa using h.f.z1⟩,
    ⟨(World.cell?_of_block (a := ⟨L.S, 5, none⟩) (setRow_other _ _ _ _ h.n.sS.symm)).trans h.v.e, (World.cell?_of_block (a := ⟨L.pl, 0, none⟩) (setRow_other _ _ _ _ h.n.ps.symm.symm)).trans h.v.p00, (World.cell?_of_block (a := ⟨L.pl, 1, none⟩) (setRow_other _ _ _ _ h.n.ps.symm.symm)).trans h.v.p01, (World.cell?_of_block (a := ⟨L.pl, 2, none⟩) (setRow_other _ _ _ _ h.n.ps.symm.symm)).trans h.v.p02, (World.cell?_of_block (a := ⟨L.pl, 3, none⟩) (setRow_other _ _ _ _ h.n.ps.symm.symm)).trans h.v.p03, (World.cell?_of_block (a := ⟨L.pl, 4, none⟩) (setRow_other _ _ _ _ h.n.ps.symm.symm)).trans h.v.p10, (World.cell?_of_block (a := ⟨L.pl, 5, none⟩) (setRow_other _ _ _ _ h.n.ps.symm.symm)).trans h.v.p11, (World.cell?_of_block (a := ⟨L.pl, 6, none⟩) (setRow_other _ _ _ _ h.n.ps.symm.symm)).trans h.v.p12, (World.cell?_of_block (a := ⟨L.pl, 7, none⟩) (setRow_other _ _ _ _ h.n.ps.symm.symm)).trans h.v.p13, setRow_heap _ _ _ _ _ _ h.v.b⟩⟩
  have hl := h.ls
  exact h.be.trans ⟨rfl, rfl, rfl, by simp, fun k hk => setRow_other _ _ _ _ (by omega)⟩
end Go.Proofs.Ytljhocdbfbjpiaa
