/-
  The ponds: their spare water; a row of structs of one's own.
-/
import Derived.Test.YtljhocdbfbjpiaaWtSplitB
import Derived.Test.YtljhocdbfbjpiaaWtCopy
namespace Go.Proofs.Ytljhocdbfbjpiaa
open Go.RowKit

/-- A row of structs of one's own, whose cells may be written. -/
structure OwnI (B : Nat) (w : World) (g k n : Nat) (F : Nat → Nat → Int) : Prop where
  lo : B ≤ g
  z : g < w.heap.size
  c : ∀ i, i < n → ∀ j, j < k → w.cell? ⟨g, i * k + j, none⟩ = some (.int .i64 (F i j))
  f : ∀ i, w.frozen? ⟨g, i, none⟩ = false
theorem OwnI.of_owns {w : World} {base n k c g : Nat} {e : TypeId} {F : Nat → Nat → Int} (h : w.ownsRow base e k (.slice (some ⟨g, 0, none⟩) n c) n (flatL k F n)) : OwnI base w g k n F := by
  have hc := h.cells (g := g) rfl
  have hlt := h.lt g rfl
  refine ⟨hlt.1, hlt.2, fun i hi j hj => ?_, fun i => ?_⟩
  · have := hc (i * k + j) _ (flatL_at hj hi)
    rw [Go.WideShapes.add_plain, Nat.zero_add] at this
    exact this
  · rcases h.2 with ⟨h0, _⟩ | ⟨g', c, cur, hv, hb, hg, hr⟩
    · cases h0
    · injection hv with hv
      injection hv with hv
      injection hv with hv
      subst hv
      simp [World.frozen?, hg]
theorem owns_some {w : World} {base n k c : Nat} {e : TypeId} {A : Option Addr} {xs : List Value} (h : w.ownsRow base e k (.slice A n c) n xs) (hn : 0 < n) : ∃ g, A = some ⟨g, 0, none⟩ := by
  rcases h.2 with ⟨_, h0⟩ | ⟨g', c, cur, hv, _⟩
  · omega
  · injection hv with hv
    exact ⟨g', hv⟩
theorem OwnI.below {B : Nat} {w w' : World} {g k n : Nat} {F : Nat → Nat → Int} (h : OwnI B w g k n F) (hb : Below w.heap.size w w') : OwnI B w' g k n F :=
  ⟨h.lo, Nat.lt_of_lt_of_le h.z hb.size, fun i hi j hj => (hb.cell (p := ⟨g, i * k + j, none⟩) h.z).trans (h.c i hi j hj), fun i => (hb.frozen (p := ⟨g, i, none⟩) h.z).trans (h.f i)⟩
theorem OwnI.far {B : Nat} {w : World} {g k n : Nat} {F : Nat → Nat → Int} (h : OwnI B w g k n F) {p : Addr} (hp : p.block ≠ g) (v : Value) : OwnI B (w.setCell p v) g k n F :=
  ⟨h.lo, by simpa using h.z, fun i hi j hj => (World.cell?_setCell_other _ _ _ _ (by intro e; exact hp (by rw [e]))).trans (h.c i hi j hj), fun i => (World.frozen?_setCell _ _ _ _).trans (h.f i)⟩
def up2 (F : Nat → Nat → Int) (i j : Nat) (x : Int) : Nat → Nat → Int := fun a b => if a = i ∧ b = j then x else F a b
theorem idx_inj {k i j a b : Nat} (hj : j < k) (hb : b < k) (h : i * k + j = a * k + b) : i = a ∧ j = b := by
  have h1 : (i * k + j) / k = i := by rw [Nat.mul_comm, Nat.mul_add_div (by omega)]; simp [Nat.div_eq_of_lt hj]
  have h2 : (a * k + b) / k = a := by rw [Nat.mul_comm, Nat.mul_add_div (by omega)]; simp [Nat.div_eq_of_lt hb]
  have e : i = a := by rw [← h1, h, h2]
  subst e
  exact ⟨rfl, by omega⟩
theorem OwnI.set {B : Nat} {w : World} {g k n : Nat} {F : Nat → Nat → Int} (h : OwnI B w g k n F) {i j : Nat} (hj : j < k) (x : Int) : OwnI B (w.setCell ⟨g, i * k + j, none⟩ (.int .i64 x)) g k n (up2 F i j x) :=
  ⟨h.lo, by simpa using h.z, fun a ha b hb => by
    by_cases e : a * k + b = i * k + j
    · obtain ⟨rfl, rfl⟩ := idx_inj hb hj e
      rw [cell_set_self, h.c a ha b hb]
      simp [up2]
    · rw [World.cell?_setCell_other _ _ _ _ (by intro e'; injection e' with _ e'; exact e e'.symm), h.c a ha b hb, up2, if_neg (fun hh => e (by rw [hh.1, hh.2]))],
   fun a => (World.frozen?_setCell _ _ _ _).trans (h.f a)⟩
theorem OwnI.congr {B : Nat} {w : World} {g k n : Nat} {F G : Nat → Nat → Int} (h : OwnI B w g k n F) (e : ∀ i, i < n → ∀ j, j < k → F i j = G i j) : OwnI B w g k n G :=
  ⟨h.lo, h.z, fun i hi j hj => by rw [h.c i hi j hj, e i hi j hj], h.f⟩
theorem OwnI.ri {B : Nat} {w : World} {g k n : Nat} {F : Nat → Nat → Int} (h : OwnI B w g k n F) : RI w (some ⟨g, 0, none⟩) k n F := fun _ => ⟨g, 0, rfl, h.z, fun i hi j hj => by rw [Nat.zero_add]; exact h.c i hi j hj⟩

theorem OwnI.ri2 {B : Nat} {w : World} {g k n : Nat} {F : Nat → Nat → Int} (h : OwnI B w g k n F) : RI2 B w (some ⟨g, 0, none⟩) k n F := fun _ => ⟨g, 0, rfl, h.lo, h.z, fun i hi j hj => by rw [Nat.zero_add]; exact h.c i hi j hj⟩
theorem RI2.mono {B B' : Nat} {w : World} {A : Option Addr} {k n : Nat} {f : Nat → Nat → Int} (h : RI2 B w A k n f) (hB : B' ≤ B) : RI2 B' w A k n f := fun hp => by
  obtain ⟨b, off, e, h0, r⟩ := h hp
  exact ⟨b, off, e, Nat.le_trans hB h0, r⟩
theorem RI2.congr {B : Nat} {w : World} {A : Option Addr} {k n : Nat} {f g : Nat → Nat → Int} (h : RI2 B w A k n f) (e : ∀ i, i < n → ∀ j, j < k → f i j = g i j) : RI2 B w A k n g := fun hp => by
  obtain ⟨b, off, e', h0, h1, h2⟩ := h hp
  exact ⟨b, off, e', h0, h1, fun i hi j hj => by rw [h2 i hi j hj, e i hi j hj]⟩

/-- What Right says of the ponds. -/
def PondOK (f : Nat → Nat → Int) (n : Nat) : Prop := ∀ i, i < n → 0 ≤ f i 2 ∧ f i 2 ≤ f i 1 ∧ f i 1 ≤ f i 3 ∧ f i 3 ≤ 1000000000 ∧ 0 ≤ f i 4 ∧ f i 4 ≤ 10000000
def spF (f : Nat → Nat → Int) (i : Nat) : Int := f i 1 - f i 2
theorem spF_bd {f : Nat → Nat → Int} {n k : Nat} (h : PondOK f n) (hk : k ≤ n) : 0 ≤ sumN (spF f) k ∧ sumN (spF f) k ≤ (k : Int) * 1000000000 := by
  have := sumN_bd (f := spF f) (n := k) (lo := 0) (hi := 1000000000) fun i hi => by have := h i (by omega); unfold spF; omega
  simpa using this
set_option maxRecDepth 20000 in
set_option maxHeartbeats 4000000 in
theorem spare_any (n c : Nat) (f : Nat → Nat → Int) (A : Option Addr) (w : World) (hR : RI w A 5 n f) (hn : n ≤ 8) (hP : PondOK f n) :
    Calls Try.prog 35 #[.slice A n c] w fun e w' => e = .returned (.int .i64 (sumN (spF f) n)) ∧ Below w.heap.size w w' := by
  have HR := Lib.hid hR
  have HP := Lib.hid hP
  have hni : (n : Int) ≤ 8 := by omega
  clear hR hP
  go_enter Try.func35, Try.ntmps35
  go_wp2
  go_loopw [3, 8] (fun s i wr => ∃ k : Nat, k ≤ n ∧ i = .int .i64 k ∧ s = .int .i64 (sumN (spF f) k) ∧ Below w.heap.size w wr) (fun _ i _ => n - (intOf i).toNat)
  case atStart => exact ⟨0, Nat.zero_le _, rfl, rfl, Below.refl _ _⟩
  case round =>
    obtain ⟨k, hk, rfl, rfl, hb⟩ := hrel
    have HB := Lib.hid hb
    by_cases hlt : k < n
    · have hlti : (k : Int) < (n : Int) := by omega
      obtain ⟨b, off, rfl, hbz, hc⟩ := (HR.out.below hb).at_ hlt
      have c0 := hc 0 (by omega)
      have c1 := hc 1 (by omega)
      have c2 := hc 2 (by omega)
      have c3 := hc 3 (by omega)
      have c4 := hc 4 (by omega)
      rw [Nat.add_zero] at c0
      obtain ⟨q1, q2, q3, q4, q5, q6⟩ := HP.out k hlt
      obtain ⟨x, hx⟩ : ∃ x, x = f k 1 := ⟨_, rfl⟩
      obtain ⟨y, hy⟩ : ∃ x, x = f k 2 := ⟨_, rfl⟩
      rw [← hx] at c1
      rw [← hy] at c2
      have hbd := spF_bd HP.out hk
      obtain ⟨S, hS⟩ : ∃ S, S = sumN (spF f) k := ⟨_, rfl⟩
      have hst : sumN (spF f) (k + 1) = S + (x - y) := by rw [hS, hx, hy]; rfl
      rw [← hS] at hbd ⊢
      have HST := Lib.hid hst
      have HLT := Lib.hid hlt
      have hy1 : 0 ≤ x - y := by omega
      have hy2 : x - y ≤ 1000000000 := by omega
      have hx0 : 0 ≤ x := by omega
      have hx1 : x ≤ 1000000000 := by omega
      have hy3 : 0 ≤ y := by omega
      have hy4 : y ≤ 1000000000 := by omega
      have hS2 : S ≤ 8000000000 := by omega
      have hS1 := hbd.1
      clear hbd hS hst hlt hb hc hx hy q1 q2 q3 q4 q5 q6
      go_wp2
      go_roundw
      case rel => exact ⟨k + 1, HLT.out, by go_num, by rw [HST.out], thru HB.out (Joins.below_alloc1 _ _) HB.out.size⟩
      case measure => have := HLT.out; simp [intOf]; omega
    · have hlti : decide ((k : Int) < (n : Int)) = false := decide_eq_false (by omega)
      have hke : Hid (sumN (spF f) k = sumN (spF f) n) := Lib.hid (by rw [show k = n by omega])
      clear hb
      go_wp2
      go_ret
      exact ⟨ret_int hke.out, HB.out⟩
end Go.Proofs.Ytljhocdbfbjpiaa
