/-
  A snowmaking system in memory, and a variable that holds one.
-/
import Derived.Test.YtljhocdbfbjpiaaWtClone
import Derived.Test.YtljhocdbfbjpiaaWtMake
namespace Go.Proofs.Ytljhocdbfbjpiaa
open Go.RowKit

theorem owns_set3 {w : World} {B n z : Nat} {t : TypeId} {v : Value} {xs : List Value} (h : w.ownsRow B t z v n xs) {p : Addr} (hp : v.ownBlock ≠ some p.block) (u : Value) : (w.setCell p u).ownsRow B t z v n xs := by
  refine ⟨h.1, ?_⟩
  rcases h.2 with h0 | ⟨g, cap, cur, hv, hB, hh, r⟩
  · exact .inl h0
  · refine .inr ⟨g, cap, cur, hv, hB, ?_, r⟩
    rw [Below.heap_setCell _ _ _ _ (fun e => hp (by rw [hv]; simp [Value.ownBlock, e]))]
    exact hh
/-- Another block than a row of one's own. -/
theorem owns_ne {w : World} {B n z : Nat} {t : TypeId} {v : Value} {xs : List Value} (h : w.ownsRow B t z v n xs) {b : Nat} (hb : b < B) : v.ownBlock ≠ some b := fun e => by
  have := (h.lt b e).1; omega
/-- A row of structs that lies from block B on. -/
def RI2 (B : Nat) (w : World) (A : Option Addr) (k n : Nat) (f : Nat → Nat → Int) : Prop :=
  0 < n → ∃ b off, A = some ⟨b, off, none⟩ ∧ B ≤ b ∧ b < w.heap.size ∧ ∀ i, i < n → ∀ j, j < k → w.cell? ⟨b, off + i * k + j, none⟩ = some (.int .i64 (f i j))
theorem RI2.ri {B : Nat} {w : World} {A : Option Addr} {k n : Nat} {f : Nat → Nat → Int} (h : RI2 B w A k n f) : RI w A k n f := fun hp => by
  obtain ⟨b, off, e, _, h1, h2⟩ := h hp
  exact ⟨b, off, e, h1, h2⟩
theorem RI2.below {B : Nat} {w w' : World} {A : Option Addr} {k n : Nat} {f : Nat → Nat → Int} (h : RI2 B w A k n f) (hb : Below w.heap.size w w') : RI2 B w' A k n f := fun hp => by
  obtain ⟨b, off, e, h0, h1, h2⟩ := h hp
  exact ⟨b, off, e, h0, Nat.lt_of_lt_of_le h1 hb.size, fun i hi j hj => (hb.cell (p := ⟨b, off + i * k + j, none⟩) h1).trans (h2 i hi j hj)⟩
theorem RI2.set {B : Nat} {w : World} {A : Option Addr} {k n : Nat} {f : Nat → Nat → Int} (h : RI2 B w A k n f) {p : Addr} (hp : p.block < B) (v : Value) : RI2 B (w.setCell p v) A k n f := fun hn => by
  obtain ⟨b, off, e, h0, h1, h2⟩ := h hn
  refine ⟨b, off, e, h0, by simpa using h1, fun i hi j hj => ?_⟩
  rw [World.cell?_setCell_other _ _ _ _ (fun e' => by rw [e'] at hp; exact absurd hp (by show ¬ b < B; omega))]
  exact h2 i hi j hj
theorem RI2.of_owns {w : World} {base n k : Nat} {e : TypeId} {A : Option Addr} {cap : Nat} {f : Nat → Nat → Int} (h : w.ownsRow base e k (.slice A n cap) n (flatL k f n)) : RI2 base w A k n f := fun hp => by
  obtain ⟨b, off, e', h1, h2⟩ := RI.of_owns h hp
  subst e'
  exact ⟨b, off, rfl, (h.lt b rfl).1, h1, h2⟩
/-- What a row of structs gives a clone. -/
theorem RI.src {w : World} {A : Option Addr} {k n c : Nat} {f : Nat → Nat → Int} (h : RI w A k n f) (hk : 0 < k) (h0 : A = none → n = 0 ∧ c = 0) : Src w A n c (flatL k f n) :=
  ⟨h0, fun a ha j u hu => by
    have hp : 0 < n := by
      rcases Nat.eq_zero_or_pos n with e | e
      · subst e; simp [flatL] at hu
      · exact e
    obtain ⟨b, off, e, h1, h2⟩ := h hp
    rw [e] at ha
    injection ha with ha
    subst ha
    exact RI.news hk (fun _ => ⟨b, off, rfl, h1, h2⟩) j u hu⟩
/-- The cells of the kinds. -/
def kCells (K : KK) : Nat → List Value
  | 0 => []
  | n + 1 => kCells K n ++ [.int .i64 (K.id n), .slice (K.A n) (K.p n).length (K.c n), .int .i64 (K.pw n), .int .i64 (K.pr n)]
theorem kCells_len (K : KK) : ∀ n, (kCells K n).length = n * 4
  | 0 => rfl
  | n + 1 => by rw [kCells, List.length_append, kCells_len K n]; simp; omega
theorem kCells_one (K : KK) : ∀ n, ∀ u ∈ kCells K n, u.oneCell' = true
  | 0, u, h => absurd h (by simp [kCells])
  | n + 1, u, h => by
    rw [kCells] at h
    rcases List.mem_append.1 h with h | h
    · exact kCells_one K n u h
    · simp at h
      rcases h with rfl | rfl | rfl | rfl <;> rfl
theorem kCells_at (K : KK) : ∀ {n i : Nat}, i < n → (kCells K n)[i * 4]? = some (.int .i64 (K.id i)) ∧ (kCells K n)[i * 4 + 1]? = some (.slice (K.A i) (K.p i).length (K.c i)) ∧ (kCells K n)[i * 4 + 2]? = some (.int .i64 (K.pw i)) ∧ (kCells K n)[i * 4 + 3]? = some (.int .i64 (K.pr i))
  | 0, i, hi => absurd hi (by omega)
  | n + 1, i, hi => by
    have hl := kCells_len K n
    rw [kCells]
    by_cases h : i < n
    · obtain ⟨h0, h1, h2, h3⟩ := kCells_at K h
      refine ⟨?_, ?_, ?_, ?_⟩
      all_goals rw [List.getElem?_append_left (by omega)]; assumption
    · obtain rfl : i = n := by omega
      refine ⟨?_, ?_, ?_, ?_⟩
      · rw [List.getElem?_append_right (by omega), hl, Nat.sub_self]; rfl
      · rw [List.getElem?_append_right (by omega), hl, show i * 4 + 1 - i * 4 = 1 by omega]; rfl
      · rw [List.getElem?_append_right (by omega), hl, show i * 4 + 2 - i * 4 = 2 by omega]; rfl
      · rw [List.getElem?_append_right (by omega), hl, show i * 4 + 3 - i * 4 = 3 by omega]; rfl
theorem RdK.src {w : World} {A : Option Addr} {n c : Nat} {K : KK} (h : RdK w A n K) (h0 : A = none → n = 0 ∧ c = 0) : Src w A n c (kCells K n) :=
  ⟨h0, fun a ha j u hu => by
    have hl : j < n * 4 := by have := (List.getElem?_eq_some_iff.1 hu).1; rwa [kCells_len] at this
    obtain ⟨b, off, e, h1, h2⟩ := h (by omega)
    rw [e] at ha
    injection ha with ha
    subst ha
    rw [Go.WideShapes.add_plain]
    have hi : j / 4 < n := by omega
    obtain ⟨⟨q0, q1, q2, q3⟩, _⟩ := h2 (j / 4) hi
    obtain ⟨k0, k1, k2, k3⟩ := kCells_at K hi
    have ej : j = j / 4 * 4 + j % 4 := by omega
    have hm : j % 4 = 0 ∨ j % 4 = 1 ∨ j % 4 = 2 ∨ j % 4 = 3 := by omega
    generalize j / 4 = i at *
    rcases hm with hm | hm | hm | hm
    all_goals rw [hm] at ej; subst ej
    · rw [Nat.add_zero] at hu; rw [k0] at hu; injection hu with hu; rw [← hu]; exact q0
    · rw [k1] at hu; injection hu with hu; rw [← hu]; exact q1
    · rw [k2] at hu; injection hu with hu; rw [← hu]; exact q2
    · rw [k3] at hu; injection hu with hu; rw [← hu]; exact q3⟩
theorem RdP.src {w : World} {A : Option Addr} {c : Nat} {l : List (Int × Int)} (h : RdP w A l) (h0 : A = none → l.length = 0 ∧ c = 0) : Src w A l.length c (drC l) :=
  ⟨h0, fun a ha j u hu => by
    have hl : j < l.length * 2 := by have := (List.getElem?_eq_some_iff.1 hu).1; rwa [drC_len] at this
    obtain ⟨b, off, e, h1, h2⟩ := h (by omega)
    rw [e] at ha
    injection ha with ha
    subst ha
    rw [Go.WideShapes.add_plain]
    have hi : j / 2 < l.length := by omega
    obtain ⟨q0, q1⟩ := h2 (j / 2) hi
    obtain ⟨k0, k1⟩ := drC_at l (j / 2) hi
    have ej : j = j / 2 * 2 + j % 2 := by omega
    have hm : j % 2 = 0 ∨ j % 2 = 1 := by omega
    generalize j / 2 = i at *
    rcases hm with hm | hm
    all_goals rw [hm] at ej; subst ej
    · rw [Nat.add_zero] at hu; rw [k0] at hu; injection hu with hu; rw [← hu]; exact q0
    · rw [k1] at hu; injection hu with hu; rw [← hu]; exact q1⟩
theorem drC_one (l : List (Int × Int)) : ∀ u ∈ drC l, u.oneCell' = true := fun u h => by
  simp only [drC, List.mem_flatMap] at h
  obtain ⟨p, _, h⟩ := h
  simp at h
  rcases h with rfl | rfl <;> rfl

/-- A variable at block s that holds a system. -/
structure BoxAt (w : World) (s : Nat) (v0 v1 v2 v3 v4 v5 : Value) (p l t wa lo en inn : Int) : Prop where
  z : s < w.heap.size
  c0 : w.cell? ⟨s, 0, none⟩ = some v0
  c1 : w.cell? ⟨s, 1, none⟩ = some v1
  c2 : w.cell? ⟨s, 2, none⟩ = some v2
  c3 : w.cell? ⟨s, 3, none⟩ = some v3
  c4 : w.cell? ⟨s, 4, none⟩ = some v4
  c5 : w.cell? ⟨s, 5, none⟩ = some v5
  c6 : w.cell? ⟨s, 6, none⟩ = some (.int .i64 p)
  c7 : w.cell? ⟨s, 7, none⟩ = some (.int .i64 l)
  c8 : w.cell? ⟨s, 8, none⟩ = some (.int .i64 t)
  c9 : w.cell? ⟨s, 9, none⟩ = some (.int .i64 wa)
  c10 : w.cell? ⟨s, 10, none⟩ = some (.int .i64 lo)
  c11 : w.cell? ⟨s, 11, none⟩ = some (.int .i64 en)
  c12 : w.cell? ⟨s, 12, none⟩ = some (.int .i64 inn)
  f : ∀ k, w.frozen? ⟨s, k, none⟩ = false
theorem BoxAt.below {w : World} {s : Nat} {v0 v1 v2 v3 v4 v5 : Value} {p l t wa lo en inn : Int} (h : BoxAt w s v0 v1 v2 v3 v4 v5 p l t wa lo en inn) {w' : World} (hb : Below w.heap.size w w') : BoxAt w' s v0 v1 v2 v3 v4 v5 p l t wa lo en inn :=
  ⟨Nat.lt_of_lt_of_le h.z hb.size, (hb.cell (p := ⟨s, 0, none⟩) h.z).trans h.c0, (hb.cell (p := ⟨s, 1, none⟩) h.z).trans h.c1, (hb.cell (p := ⟨s, 2, none⟩) h.z).trans h.c2, (hb.cell (p := ⟨s, 3, none⟩) h.z).trans h.c3, (hb.cell (p := ⟨s, 4, none⟩) h.z).trans h.c4, (hb.cell (p := ⟨s, 5, none⟩) h.z).trans h.c5, (hb.cell (p := ⟨s, 6, none⟩) h.z).trans h.c6, (hb.cell (p := ⟨s, 7, none⟩) h.z).trans h.c7, (hb.cell (p := ⟨s, 8, none⟩) h.z).trans h.c8, (hb.cell (p := ⟨s, 9, none⟩) h.z).trans h.c9, (hb.cell (p := ⟨s, 10, none⟩) h.z).trans h.c10, (hb.cell (p := ⟨s, 11, none⟩) h.z).trans h.c11, (hb.cell (p := ⟨s, 12, none⟩) h.z).trans h.c12, fun k => (hb.frozen (p := ⟨s, k, none⟩) h.z).trans (h.f k)⟩
theorem BoxAt.set0 {w : World} {s : Nat} {v0 v1 v2 v3 v4 v5 : Value} {p l t wa lo en inn : Int} (h : BoxAt w s v0 v1 v2 v3 v4 v5 p l t wa lo en inn) (v : Value) : BoxAt (w.setCell ⟨s, 0, none⟩ v) s v v1 v2 v3 v4 v5 p l t wa lo en inn :=
  ⟨by simpa using h.z, by simp [cell_set_self, h.c0], (World.cell?_setCell_other _ _ _ _ (by intro e; injection e with _ e; omega)).trans h.c1, (World.cell?_setCell_other _ _ _ _ (by intro e; injection e with _ e; omega)).trans h.c2, (World.cell?_setCell_other _ _ _ _ (by intro e; injection e with _ e; omega)).trans h.c3, (World.cell?_setCell_other _ _ _ _ (by intro e; injection e with _ e; omega)).trans h.c4, (World.cell?_setCell_other _ _ _ _ (by intro e; injection e with _ e; omega)).trans h.c5, (World.cell?_setCell_other _ _ _ _ (by intro e; injection e with _ e; omega)).trans h.c6, (World.cell?_setCell_other _ _ _ _ (by intro e; injection e with _ e; omega)).trans h.c7, (World.cell?_setCell_other _ _ _ _ (by intro e; injection e with _ e; omega)).trans h.c8, (World.cell?_setCell_other _ _ _ _ (by intro e; injection e with _ e; omega)).trans h.c9, (World.cell?_setCell_other _ _ _ _ (by intro e; injection e with _ e; omega)).trans h.c10, (World.cell?_setCell_other _ _ _ _ (by intro e; injection e with _ e; omega)).trans h.c11, (World.cell?_setCell_other _ _ _ _ (by intro e; injection e with _ e; omega)).trans h.c12, fun k => (World.frozen?_setCell _ _ _ _).trans (h.f k)⟩
theorem BoxAt.set1 {w : World} {s : Nat} {v0 v1 v2 v3 v4 v5 : Value} {p l t wa lo en inn : Int} (h : BoxAt w s v0 v1 v2 v3 v4 v5 p l t wa lo en inn) (v : Value) : BoxAt (w.setCell ⟨s, 1, none⟩ v) s v0 v v2 v3 v4 v5 p l t wa lo en inn :=
  ⟨by simpa using h.z, (World.cell?_setCell_other _ _ _ _ (by intro e; injection e with _ e; omega)).trans h.c0, by simp [cell_set_self, h.c1], (World.cell?_setCell_other _ _ _ _ (by intro e; injection e with _ e; omega)).trans h.c2, (World.cell?_setCell_other _ _ _ _ (by intro e; injection e with _ e; omega)).trans h.c3, (World.cell?_setCell_other _ _ _ _ (by intro e; injection e with _ e; omega)).trans h.c4, (World.cell?_setCell_other _ _ _ _ (by intro e; injection e with _ e; omega)).trans h.c5, (World.cell?_setCell_other _ _ _ _ (by intro e; injection e with _ e; omega)).trans h.c6, (World.cell?_setCell_other _ _ _ _ (by intro e; injection e with _ e; omega)).trans h.c7, (World.cell?_setCell_other _ _ _ _ (by intro e; injection e with _ e; omega)).trans h.c8, (World.cell?_setCell_other _ _ _ _ (by intro e; injection e with _ e; omega)).trans h.c9, (World.cell?_setCell_other _ _ _ _ (by intro e; injection e with _ e; omega)).trans h.c10, (World.cell?_setCell_other _ _ _ _ (by intro e; injection e with _ e; omega)).trans h.c11, (World.cell?_setCell_other _ _ _ _ (by intro e; injection e with _ e; omega)).trans h.c12, fun k => (World.frozen?_setCell _ _ _ _).trans (h.f k)⟩
theorem BoxAt.set2 {w : World} {s : Nat} {v0 v1 v2 v3 v4 v5 : Value} {p l t wa lo en inn : Int} (h : BoxAt w s v0 v1 v2 v3 v4 v5 p l t wa lo en inn) (v : Value) : BoxAt (w.setCell ⟨s, 2, none⟩ v) s v0 v1 v v3 v4 v5 p l t wa lo en inn :=
  ⟨by simpa using h.z, (World.cell?_setCell_other _ _ _ _ (by intro e; injection e with _ e; omega)).trans h.c0, (World.cell?_setCell_other _ _ _ _ (by intro e; injection e with _ e; omega)).trans h.c1, by simp [cell_set_self, h.c2], (World.cell?_setCell_other _ _ _ _ (by intro e; injection e with _ e; omega)).trans h.c3, (World.cell?_setCell_other _ _ _ _ (by intro e; injection e with _ e; omega)).trans h.c4, (World.cell?_setCell_other _ _ _ _ (by intro e; injection e with _ e; omega)).trans h.c5, (World.cell?_setCell_other _ _ _ _ (by intro e; injection e with _ e; omega)).trans h.c6, (World.cell?_setCell_other _ _ _ _ (by intro e; injection e with _ e; omega)).trans h.c7, (World.cell?_setCell_other _ _ _ _ (by intro e; injection e with _ e; omega)).trans h.c8, (World.cell?_setCell_other _ _ _ _ (by intro e; injection e with _ e; omega)).trans h.c9, (World.cell?_setCell_other _ _ _ _ (by intro e; injection e with _ e; omega)).trans h.c10, (World.cell?_setCell_other _ _ _ _ (by intro e; injection e with _ e; omega)).trans h.c11, (World.cell?_setCell_other _ _ _ _ (by intro e; injection e with _ e; omega)).trans h.c12, fun k => (World.frozen?_setCell _ _ _ _).trans (h.f k)⟩
theorem BoxAt.set3 {w : World} {s : Nat} {v0 v1 v2 v3 v4 v5 : Value} {p l t wa lo en inn : Int} (h : BoxAt w s v0 v1 v2 v3 v4 v5 p l t wa lo en inn) (v : Value) : BoxAt (w.setCell ⟨s, 3, none⟩ v) s v0 v1 v2 v v4 v5 p l t wa lo en inn :=
  ⟨by simpa using h.z, (World.cell?_setCell_other _ _ _ _ (by intro e; injection e with _ e; omega)).trans h.c0, (World.cell?_setCell_other _ _ _ _ (by intro e; injection e with _ e; omega)).trans h.c1, (World.cell?_setCell_other _ _ _ _ (by intro e; injection e with _ e; omega)).trans h.c2, by simp [cell_set_self, h.c3], (World.cell?_setCell_other _ _ _ _ (by intro e; injection e with _ e; omega)).trans h.c4, (World.cell?_setCell_other _ _ _ _ (by intro e; injection e with _ e; omega)).trans h.c5, (World.cell?_setCell_other _ _ _ _ (by intro e; injection e with _ e; omega)).trans h.c6, (World.cell?_setCell_other _ _ _ _ (by intro e; injection e with _ e; omega)).trans h.c7, (World.cell?_setCell_other _ _ _ _ (by intro e; injection e with _ e; omega)).trans h.c8, (World.cell?_setCell_other _ _ _ _ (by intro e; injection e with _ e; omega)).trans h.c9, (World.cell?_setCell_other _ _ _ _ (by intro e; injection e with _ e; omega)).trans h.c10, (World.cell?_setCell_other _ _ _ _ (by intro e; injection e with _ e; omega)).trans h.c11, (World.cell?_setCell_other _ _ _ _ (by intro e; injection e with _ e; omega)).trans h.c12, fun k => (World.frozen?_setCell _ _ _ _).trans (h.f k)⟩
theorem BoxAt.set4 {w : World} {s : Nat} {v0 v1 v2 v3 v4 v5 : Value} {p l t wa lo en inn : Int} (h : BoxAt w s v0 v1 v2 v3 v4 v5 p l t wa lo en inn) (v : Value) : BoxAt (w.setCell ⟨s, 4, none⟩ v) s v0 v1 v2 v3 v v5 p l t wa lo en inn :=
  ⟨by simpa using h.z, (World.cell?_setCell_other _ _ _ _ (by intro e; injection e with _ e; omega)).trans h.c0, (World.cell?_setCell_other _ _ _ _ (by intro e; injection e with _ e; omega)).trans h.c1, (World.cell?_setCell_other _ _ _ _ (by intro e; injection e with _ e; omega)).trans h.c2, (World.cell?_setCell_other _ _ _ _ (by intro e; injection e with _ e; omega)).trans h.c3, by simp [cell_set_self, h.c4], (World.cell?_setCell_other _ _ _ _ (by intro e; injection e with _ e; omega)).trans h.c5, (World.cell?_setCell_other _ _ _ _ (by intro e; injection e with _ e; omega)).trans h.c6, (World.cell?_setCell_other _ _ _ _ (by intro e; injection e with _ e; omega)).trans h.c7, (World.cell?_setCell_other _ _ _ _ (by intro e; injection e with _ e; omega)).trans h.c8, (World.cell?_setCell_other _ _ _ _ (by intro e; injection e with _ e; omega)).trans h.c9, (World.cell?_setCell_other _ _ _ _ (by intro e; injection e with _ e; omega)).trans h.c10, (World.cell?_setCell_other _ _ _ _ (by intro e; injection e with _ e; omega)).trans h.c11, (World.cell?_setCell_other _ _ _ _ (by intro e; injection e with _ e; omega)).trans h.c12, fun k => (World.frozen?_setCell _ _ _ _).trans (h.f k)⟩
theorem BoxAt.set5 {w : World} {s : Nat} {v0 v1 v2 v3 v4 v5 : Value} {p l t wa lo en inn : Int} (h : BoxAt w s v0 v1 v2 v3 v4 v5 p l t wa lo en inn) (v : Value) : BoxAt (w.setCell ⟨s, 5, none⟩ v) s v0 v1 v2 v3 v4 v p l t wa lo en inn :=
  ⟨by simpa using h.z, (World.cell?_setCell_other _ _ _ _ (by intro e; injection e with _ e; omega)).trans h.c0, (World.cell?_setCell_other _ _ _ _ (by intro e; injection e with _ e; omega)).trans h.c1, (World.cell?_setCell_other _ _ _ _ (by intro e; injection e with _ e; omega)).trans h.c2, (World.cell?_setCell_other _ _ _ _ (by intro e; injection e with _ e; omega)).trans h.c3, (World.cell?_setCell_other _ _ _ _ (by intro e; injection e with _ e; omega)).trans h.c4, by simp [cell_set_self, h.c5], (World.cell?_setCell_other _ _ _ _ (by intro e; injection e with _ e; omega)).trans h.c6, (World.cell?_setCell_other _ _ _ _ (by intro e; injection e with _ e; omega)).trans h.c7, (World.cell?_setCell_other _ _ _ _ (by intro e; injection e with _ e; omega)).trans h.c8, (World.cell?_setCell_other _ _ _ _ (by intro e; injection e with _ e; omega)).trans h.c9, (World.cell?_setCell_other _ _ _ _ (by intro e; injection e with _ e; omega)).trans h.c10, (World.cell?_setCell_other _ _ _ _ (by intro e; injection e with _ e; omega)).trans h.c11, (World.cell?_setCell_other _ _ _ _ (by intro e; injection e with _ e; omega)).trans h.c12, fun k => (World.frozen?_setCell _ _ _ _).trans (h.f k)⟩
theorem BoxAt.set6 {w : World} {s : Nat} {v0 v1 v2 v3 v4 v5 : Value} {p l t wa lo en inn : Int} (h : BoxAt w s v0 v1 v2 v3 v4 v5 p l t wa lo en inn) (n : Int) : BoxAt (w.setCell ⟨s, 6, none⟩ (.int .i64 n)) s v0 v1 v2 v3 v4 v5 n l t wa lo en inn :=
  ⟨by simpa using h.z, (World.cell?_setCell_other _ _ _ _ (by intro e; injection e with _ e; omega)).trans h.c0, (World.cell?_setCell_other _ _ _ _ (by intro e; injection e with _ e; omega)).trans h.c1, (World.cell?_setCell_other _ _ _ _ (by intro e; injection e with _ e; omega)).trans h.c2, (World.cell?_setCell_other _ _ _ _ (by intro e; injection e with _ e; omega)).trans h.c3, (World.cell?_setCell_other _ _ _ _ (by intro e; injection e with _ e; omega)).trans h.c4, (World.cell?_setCell_other _ _ _ _ (by intro e; injection e with _ e; omega)).trans h.c5, by simp [cell_set_self, h.c6], (World.cell?_setCell_other _ _ _ _ (by intro e; injection e with _ e; omega)).trans h.c7, (World.cell?_setCell_other _ _ _ _ (by intro e; injection e with _ e; omega)).trans h.c8, (World.cell?_setCell_other _ _ _ _ (by intro e; injection e with _ e; omega)).trans h.c9, (World.cell?_setCell_other _ _ _ _ (by intro e; injection e with _ e; omega)).trans h.c10, (World.cell?_setCell_other _ _ _ _ (by intro e; injection e with _ e; omega)).trans h.c11, (World.cell?_setCell_other _ _ _ _ (by intro e; injection e with _ e; omega)).trans h.c12, fun k => (World.frozen?_setCell _ _ _ _).trans (h.f k)⟩
theorem BoxAt.set7 {w : World} {s : Nat} {v0 v1 v2 v3 v4 v5 : Value} {p l t wa lo en inn : Int} (h : BoxAt w s v0 v1 v2 v3 v4 v5 p l t wa lo en inn) (n : Int) : BoxAt (w.setCell ⟨s, 7, none⟩ (.int .i64 n)) s v0 v1 v2 v3 v4 v5 p n t wa lo en inn :=
  ⟨by simpa using h.z, (World.cell?_setCell_other _ _ _ _ (by intro e; injection e with _ e; omega)).trans h.c0, (World.cell?_setCell_other _ _ _ _ (by intro e; injection e with _ e; omega)).trans h.c1, (World.cell?_setCell_other _ _ _ _ (by intro e; injection e with _ e; omega)).trans h.c2, (World.cell?_setCell_other _ _ _ _ (by intro e; injection e with _ e; omega)).trans h.c3, (World.cell?_setCell_other _ _ _ _ (by intro e; injection e with _ e; omega)).trans h.c4, (World.cell?_setCell_other _ _ _ _ (by intro e; injection e with _ e; omega)).trans h.c5, (World.cell?_setCell_other _ _ _ _ (by intro e; injection e with _ e; omega)).trans h.c6, by simp [cell_set_self, h.c7], (World.cell?_setCell_other _ _ _ _ (by intro e; injection e with _ e; omega)).trans h.c8, (World.cell?_setCell_other _ _ _ _ (by intro e; injection e with _ e; omega)).trans h.c9, (World.cell?_setCell_other _ _ _ _ (by intro e; injection e with _ e; omega)).trans h.c10, (World.cell?_setCell_other _ _ _ _ (by intro e; injection e with _ e; omega)).trans h.c11, (World.cell?_setCell_other _ _ _ _ (by intro e; injection e with _ e; omega)).trans h.c12, fun k => (World.frozen?_setCell _ _ _ _).trans (h.f k)⟩
theorem BoxAt.set8 {w : World} {s : Nat} {v0 v1 v2 v3 v4 v5 : Value} {p l t wa lo en inn : Int} (h : BoxAt w s v0 v1 v2 v3 v4 v5 p l t wa lo en inn) (n : Int) : BoxAt (w.setCell ⟨s, 8, none⟩ (.int .i64 n)) s v0 v1 v2 v3 v4 v5 p l n wa lo en inn :=
  ⟨by simpa using h.z, (World.cell?_setCell_other _ _ _ _ (by intro e; injection e with _ e; omega)).trans h.c0, (World.cell?_setCell_other _ _ _ _ (by intro e; injection e with _ e; omega)).trans h.c1, (World.cell?_setCell_other _ _ _ _ (by intro e; injection e with _ e; omega)).trans h.c2, (World.cell?_setCell_other _ _ _ _ (by intro e; injection e with _ e; omega)).trans h.c3, (World.cell?_setCell_other _ _ _ _ (by intro e; injection e with _ e; omega)).trans h.c4, (World.cell?_setCell_other _ _ _ _ (by intro e; injection e with _ e; omega)).trans h.c5, (World.cell?_setCell_other _ _ _ _ (by intro e; injection e with _ e; omega)).trans h.c6, (World.cell?_setCell_other _ _ _ _ (by intro e; injection e with _ e; omega)).trans h.c7, by simp [cell_set_self, h.c8], (World.cell?_setCell_other _ _ _ _ (by intro e; injection e with _ e; omega)).trans h.c9, (World.cell?_setCell_other _ _ _ _ (by intro e; injection e with _ e; omega)).trans h.c10, (World.cell?_setCell_other _ _ _ _ (by intro e; injection e with _ e; omega)).trans h.c11, (World.cell?_setCell_other _ _ _ _ (by intro e; injection e with _ e; omega)).trans h.c12, fun k => (World.frozen?_setCell _ _ _ _).trans (h.f k)⟩
theorem BoxAt.set9 {w : World} {s : Nat} {v0 v1 v2 v3 v4 v5 : Value} {p l t wa lo en inn : Int} (h : BoxAt w s v0 v1 v2 v3 v4 v5 p l t wa lo en inn) (n : Int) : BoxAt (w.setCell ⟨s, 9, none⟩ (.int .i64 n)) s v0 v1 v2 v3 v4 v5 p l t n lo en inn :=
  ⟨by simpa using h.z, (World.cell?_setCell_other _ _ _ _ (by intro e; injection e with _ e; omega)).trans h.c0, (World.cell?_setCell_other _ _ _ _ (by intro e; injection e with _ e; omega)).trans h.c1, (World.cell?_setCell_other _ _ _ _ (by intro e; injection e with _ e; omega)).trans h.c2, (World.cell?_setCell_other _ _ _ _ (by intro e; injection e with _ e; omega)).trans h.c3, (World.cell?_setCell_other _ _ _ _ (by intro e; injection e with _ e; omega)).trans h.c4, (World.cell?_setCell_other _ _ _ _ (by intro e; injection e with _ e; omega)).trans h.c5, (World.cell?_setCell_other _ _ _ _ (by intro e; injection e with _ e; omega)).trans h.c6, (World.cell?_setCell_other _ _ _ _ (by intro e; injection e with _ e; omega)).trans h.c7, (World.cell?_setCell_other _ _ _ _ (by intro e; injection e with _ e; omega)).trans h.c8, by simp [cell_set_self, h.c9], (World.cell?_setCell_other _ _ _ _ (by intro e; injection e with _ e; omega)).trans h.c10, (World.cell?_setCell_other _ _ _ _ (by intro e; injection e with _ e; omega)).trans h.c11, (World.cell?_setCell_other _ _ _ _ (by intro e; injection e with _ e; omega)).trans h.c12, fun k => (World.frozen?_setCell _ _ _ _).trans (h.f k)⟩
theorem BoxAt.set10 {w : World} {s : Nat} {v0 v1 v2 v3 v4 v5 : Value} {p l t wa lo en inn : Int} (h : BoxAt w s v0 v1 v2 v3 v4 v5 p l t wa lo en inn) (n : Int) : BoxAt (w.setCell ⟨s, 10, none⟩ (.int .i64 n)) s v0 v1 v2 v3 v4 v5 p l t wa n en inn :=
  ⟨by simpa using h.z, (World.cell?_setCell_other _ _ _ _ (by intro e; injection e with _ e; omega)).trans h.c0, (World.cell?_setCell_other _ _ _ _ (by intro e; injection e with _ e; omega)).trans h.c1, (World.cell?_setCell_other _ _ _ _ (by intro e; injection e with _ e; omega)).trans h.c2, (World.cell?_setCell_other _ _ _ _ (by intro e; injection e with _ e; omega)).trans h.c3, (World.cell?_setCell_other _ _ _ _ (by intro e; injection e with _ e; omega)).trans h.c4, (World.cell?_setCell_other _ _ _ _ (by intro e; injection e with _ e; omega)).trans h.c5, (World.cell?_setCell_other _ _ _ _ (by intro e; injection e with _ e; omega)).trans h.c6, (World.cell?_setCell_other _ _ _ _ (by intro e; injection e with _ e; omega)).trans h.c7, (World.cell?_setCell_other _ _ _ _ (by intro e; injection e with _ e; omega)).trans h.c8, (World.cell?_setCell_other _ _ _ _ (by intro e; injection e with _ e; omega)).trans h.c9, by simp [cell_set_self, h.c10], (World.cell?_setCell_other _ _ _ _ (by intro e; injection e with _ e; omega)).trans h.c11, (World.cell?_setCell_other _ _ _ _ (by intro e; injection e with _ e; omega)).trans h.c12, fun k => (World.frozen?_setCell _ _ _ _).trans (h.f k)⟩
theorem BoxAt.set11 {w : World} {s : Nat} {v0 v1 v2 v3 v4 v5 : Value} {p l t wa lo en inn : Int} (h : BoxAt w s v0 v1 v2 v3 v4 v5 p l t wa lo en inn) (n : Int) : BoxAt (w.setCell ⟨s, 11, none⟩ (.int .i64 n)) s v0 v1 v2 v3 v4 v5 p l t wa lo n inn :=
  ⟨by simpa using h.z, (World.cell?_setCell_other _ _ _ _ (by intro e; injection e with _ e; omega)).trans h.c0, (World.cell?_setCell_other _ _ _ _ (by intro e; injection e with _ e; omega)).trans h.c1, (World.cell?_setCell_other _ _ _ _ (by intro e; injection e with _ e; omega)).trans h.c2, (World.cell?_setCell_other _ _ _ _ (by intro e; injection e with _ e; omega)).trans h.c3, (World.cell?_setCell_other _ _ _ _ (by intro e; injection e with _ e; omega)).trans h.c4, (World.cell?_setCell_other _ _ _ _ (by intro e; injection e with _ e; omega)).trans h.c5, (World.cell?_setCell_other _ _ _ _ (by intro e; injection e with _ e; omega)).trans h.c6, (World.cell?_setCell_other _ _ _ _ (by intro e; injection e with _ e; omega)).trans h.c7, (World.cell?_setCell_other _ _ _ _ (by intro e; injection e with _ e; omega)).trans h.c8, (World.cell?_setCell_other _ _ _ _ (by intro e; injection e with _ e; omega)).trans h.c9, (World.cell?_setCell_other _ _ _ _ (by intro e; injection e with _ e; omega)).trans h.c10, by simp [cell_set_self, h.c11], (World.cell?_setCell_other _ _ _ _ (by intro e; injection e with _ e; omega)).trans h.c12, fun k => (World.frozen?_setCell _ _ _ _).trans (h.f k)⟩
theorem BoxAt.set12 {w : World} {s : Nat} {v0 v1 v2 v3 v4 v5 : Value} {p l t wa lo en inn : Int} (h : BoxAt w s v0 v1 v2 v3 v4 v5 p l t wa lo en inn) (n : Int) : BoxAt (w.setCell ⟨s, 12, none⟩ (.int .i64 n)) s v0 v1 v2 v3 v4 v5 p l t wa lo en n :=
  ⟨by simpa using h.z, (World.cell?_setCell_other _ _ _ _ (by intro e; injection e with _ e; omega)).trans h.c0, (World.cell?_setCell_other _ _ _ _ (by intro e; injection e with _ e; omega)).trans h.c1, (World.cell?_setCell_other _ _ _ _ (by intro e; injection e with _ e; omega)).trans h.c2, (World.cell?_setCell_other _ _ _ _ (by intro e; injection e with _ e; omega)).trans h.c3, (World.cell?_setCell_other _ _ _ _ (by intro e; injection e with _ e; omega)).trans h.c4, (World.cell?_setCell_other _ _ _ _ (by intro e; injection e with _ e; omega)).trans h.c5, (World.cell?_setCell_other _ _ _ _ (by intro e; injection e with _ e; omega)).trans h.c6, (World.cell?_setCell_other _ _ _ _ (by intro e; injection e with _ e; omega)).trans h.c7, (World.cell?_setCell_other _ _ _ _ (by intro e; injection e with _ e; omega)).trans h.c8, (World.cell?_setCell_other _ _ _ _ (by intro e; injection e with _ e; omega)).trans h.c9, (World.cell?_setCell_other _ _ _ _ (by intro e; injection e with _ e; omega)).trans h.c10, (World.cell?_setCell_other _ _ _ _ (by intro e; injection e with _ e; omega)).trans h.c11, by simp [cell_set_self, h.c12], fun k => (World.frozen?_setCell _ _ _ _).trans (h.f k)⟩
theorem BoxAt.setFar {w : World} {s : Nat} {v0 v1 v2 v3 v4 v5 : Value} {p l t wa lo en inn : Int} (h : BoxAt w s v0 v1 v2 v3 v4 v5 p l t wa lo en inn) {q : Addr} (hq : q.block ≠ s) (v : Value) : BoxAt (w.setCell q v) s v0 v1 v2 v3 v4 v5 p l t wa lo en inn :=
  ⟨by simpa using h.z, (World.cell?_setCell_other _ _ _ _ (by intro e; exact hq (by rw [e]))).trans h.c0, (World.cell?_setCell_other _ _ _ _ (by intro e; exact hq (by rw [e]))).trans h.c1, (World.cell?_setCell_other _ _ _ _ (by intro e; exact hq (by rw [e]))).trans h.c2, (World.cell?_setCell_other _ _ _ _ (by intro e; exact hq (by rw [e]))).trans h.c3, (World.cell?_setCell_other _ _ _ _ (by intro e; exact hq (by rw [e]))).trans h.c4, (World.cell?_setCell_other _ _ _ _ (by intro e; exact hq (by rw [e]))).trans h.c5, (World.cell?_setCell_other _ _ _ _ (by intro e; exact hq (by rw [e]))).trans h.c6, (World.cell?_setCell_other _ _ _ _ (by intro e; exact hq (by rw [e]))).trans h.c7, (World.cell?_setCell_other _ _ _ _ (by intro e; exact hq (by rw [e]))).trans h.c8, (World.cell?_setCell_other _ _ _ _ (by intro e; exact hq (by rw [e]))).trans h.c9, (World.cell?_setCell_other _ _ _ _ (by intro e; exact hq (by rw [e]))).trans h.c10, (World.cell?_setCell_other _ _ _ _ (by intro e; exact hq (by rw [e]))).trans h.c11, (World.cell?_setCell_other _ _ _ _ (by intro e; exact hq (by rw [e]))).trans h.c12, fun k => (World.frozen?_setCell _ _ _ _).trans (h.f k)⟩
theorem BoxAt.mk0 (w : World) (v0 v1 v2 v3 v4 v5 : Value) (p l t wa lo en inn : Int) : BoxAt (w.alloc (.cells #[v0, v1, v2, v3, v4, v5, .int .i64 p, .int .i64 l, .int .i64 t, .int .i64 wa, .int .i64 lo, .int .i64 en, .int .i64 inn] 41)) w.heap.size v0 v1 v2 v3 v4 v5 p l t wa lo en inn :=
  ⟨by simp, by simp [go_sem], by simp [go_sem], by simp [go_sem], by simp [go_sem], by simp [go_sem], by simp [go_sem], by simp [go_sem], by simp [go_sem], by simp [go_sem], by simp [go_sem], by simp [go_sem], by simp [go_sem], by simp [go_sem], fun k => by simp [go_sem]⟩

/-- A system's places in memory, what lies there, and its numbers. -/
structure Sys where
  po : Option Addr
  pu : Option Addr
  pi : Option Addr
  ki : Option Addr
  gu : Option Addr
  pa : Option Addr
  np : Nat
  nu : Nat
  ni : Nat
  nk : Nat
  ng : Nat
  na : Nat
  cp : Nat
  cu : Nat
  ci : Nat
  ck : Nat
  cg : Nat
  ca : Nat
  fp : Nat → Nat → Int
  fu : Nat → Nat → Int
  fi : Nat → Nat → Int
  K : KK
  fg : Nat → Nat → Int
  fa : Nat → Nat → Int
  p : Int
  l : Int
  t : Int
  wa : Int
  lo : Int
  en : Int
  inn : Int
structure SysM (w : World) (S : Sys) : Prop where
  po : RI w S.po 5 S.np S.fp
  pu : RI w S.pu 3 S.nu S.fu
  pi : RI w S.pi 5 S.ni S.fi
  ki : RdK w S.ki S.nk S.K
  gu : RI w S.gu 8 S.ng S.fg
  pa : RI w S.pa 5 S.na S.fa
/-- The sizes; a nil slice is the zero value. -/
structure SysZ (S : Sys) : Prop where
  np : S.np ≤ 8
  nu : S.nu ≤ 8
  ni : S.ni ≤ 8
  nk : S.nk ≤ 8
  ng : S.ng ≤ 8
  na : S.na ≤ 8
  kp : ∀ i, i < S.nk → (S.K.p i).length ≤ 70
  po0 : S.po = none → S.np = 0 ∧ S.cp = 0
  pu0 : S.pu = none → S.nu = 0 ∧ S.cu = 0
  pi0 : S.pi = none → S.ni = 0 ∧ S.ci = 0
  ki0 : S.ki = none → S.nk = 0 ∧ S.ck = 0
  gu0 : S.gu = none → S.ng = 0 ∧ S.cg = 0
  pa0 : S.pa = none → S.na = 0 ∧ S.ca = 0
  kp0 : ∀ i, i < S.nk → S.K.A i = none → (S.K.p i).length = 0 ∧ S.K.c i = 0
theorem SysM.below {w w' : World} {S : Sys} (h : SysM w S) (hb : Below w.heap.size w w') : SysM w' S :=
  ⟨h.po.below hb, h.pu.below hb, h.pi.below hb, h.ki.below hb, h.gu.below hb, h.pa.below hb⟩
end Go.Proofs.Ytljhocdbfbjpiaa
