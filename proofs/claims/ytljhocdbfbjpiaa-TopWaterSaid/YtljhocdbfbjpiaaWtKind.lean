/-
  The kinds of guns in memory; the first kind with an identifier.
-/
import Derived.Test.YtljhocdbfbjpiaaIntRows
import Derived.Test.YtljhocdbfbjpiaaPtsWalkD
namespace Go.Proofs.Ytljhocdbfbjpiaa
open Go.RowKit

structure KK where
  id : Nat → Int
  A : Nat → Option Addr
  c : Nat → Nat
  p : Nat → List (Int × Int)
  pw : Nat → Int
  pr : Nat → Int
structure KindAt (w : World) (b o : Nat) (K : KK) (i : Nat) : Prop where
  c0 : w.cell? ⟨b, o, none⟩ = some (.int .i64 (K.id i))
  c1 : w.cell? ⟨b, o + 1, none⟩ = some (.slice (K.A i) (K.p i).length (K.c i))
  c2 : w.cell? ⟨b, o + 2, none⟩ = some (.int .i64 (K.pw i))
  c3 : w.cell? ⟨b, o + 3, none⟩ = some (.int .i64 (K.pr i))
def RdK (w : World) (A : Option Addr) (n : Nat) (K : KK) : Prop :=
  0 < n → ∃ b off, A = some ⟨b, off, none⟩ ∧ b < w.heap.size ∧ ∀ i, i < n → KindAt w b (off + i * 4) K i ∧ RdP w (K.A i) (K.p i)
theorem KindAt.below {w w' : World} {b o : Nat} {K : KK} {i : Nat} (h : KindAt w b o K i) (hl : b < w.heap.size) (hb : Below w.heap.size w w') : KindAt w' b o K i :=
  ⟨(hb.cell (p := ⟨b, o, none⟩) hl).trans h.c0, (hb.cell (p := ⟨b, o + 1, none⟩) hl).trans h.c1, (hb.cell (p := ⟨b, o + 2, none⟩) hl).trans h.c2, (hb.cell (p := ⟨b, o + 3, none⟩) hl).trans h.c3⟩
theorem RdK.below {w w' : World} {A : Option Addr} {n : Nat} {K : KK} (h : RdK w A n K) (hb : Below w.heap.size w w') : RdK w' A n K := fun hp => by
  obtain ⟨b, off, e, h1, h2⟩ := h hp
  exact ⟨b, off, e, Nat.lt_of_lt_of_le h1 hb.size, fun i hi => ⟨(h2 i hi).1.below h1 hb, (h2 i hi).2.below hb⟩⟩
theorem RdK.at_ {w : World} {A : Option Addr} {n : Nat} {K : KK} (h : RdK w A n K) {i : Nat} (hi : i < n) : ∃ b off, A = some ⟨b, off, none⟩ ∧ b < w.heap.size ∧ KindAt w b (off + i * 4) K i := by
  obtain ⟨b, off, e, h1, h2⟩ := h (by omega)
  exact ⟨b, off, e, h1, (h2 i hi).1⟩
theorem RdK.pts {w : World} {A : Option Addr} {n : Nat} {K : KK} (h : RdK w A n K) {i : Nat} (hi : i < n) : RdP w (K.A i) (K.p i) := by
  obtain ⟨b, off, e, h1, h2⟩ := h (by omega)
  exact (h2 i hi).2
/-- The first kind with an identifier. -/
def kFirst (K : KK) (x : Int) : Nat → Option Nat
  | 0 => none
  | n + 1 => match kFirst K x n with
    | some i => some i
    | none => if K.id n = x then some n else none
theorem kFirst_mono {K : KK} {x : Int} {i : Nat} : ∀ {k : Nat} (d : Nat), kFirst K x k = some i → kFirst K x (k + d) = some i
  | _, 0, h => h
  | k, d + 1, h => by
    rw [← Nat.add_assoc, kFirst, kFirst_mono d h]
theorem kFirst_spec {K : KK} {x : Int} {i : Nat} : ∀ {n : Nat}, kFirst K x n = some i → i < n ∧ K.id i = x
  | 0, h => by simp [kFirst] at h
  | n + 1, h => by
    rw [kFirst] at h
    cases hk : kFirst K x n with
    | some j =>
      rw [hk] at h
      simp at h
      subst h
      have := kFirst_spec hk
      exact ⟨by omega, this.2⟩
    | none =>
      rw [hk] at h
      by_cases he : K.id n = x
      · simp [he] at h
        subst h
        exact ⟨by omega, he⟩
      · simp [he] at h
def kV (K : KK) : Option Nat → Value
  | some i => .agg #[.int .i64 (K.id i), .slice (K.A i) (K.p i).length (K.c i), .int .i64 (K.pw i), .int .i64 (K.pr i)]
  | none => .agg #[.int .i64 0, .slice none 0 0, .int .i64 0, .int .i64 0]
structure KRel (w wr : World) : Prop where
  be : Below w.heap.size w wr
  z : w.heap.size < wr.heap.size
  d0 : wr.cell? ⟨w.heap.size, 0, none⟩ = some (.int .i64 0)
  d1 : wr.cell? ⟨w.heap.size, 1, none⟩ = some (.slice none 0 0)
  d2 : wr.cell? ⟨w.heap.size, 2, none⟩ = some (.int .i64 0)
  d3 : wr.cell? ⟨w.heap.size, 3, none⟩ = some (.int .i64 0)
  f : ∀ k, wr.frozen? ⟨w.heap.size, k, none⟩ = false
theorem KRel.on {w wr w' : World} (h : KRel w wr) (hb : Below wr.heap.size wr w') : KRel w w' :=
  ⟨thru h.be hb h.be.size, Nat.lt_of_lt_of_le h.z hb.size, (hb.cell (p := ⟨w.heap.size, 0, none⟩) h.z).trans h.d0, (hb.cell (p := ⟨w.heap.size, 1, none⟩) h.z).trans h.d1, (hb.cell (p := ⟨w.heap.size, 2, none⟩) h.z).trans h.d2, (hb.cell (p := ⟨w.heap.size, 3, none⟩) h.z).trans h.d3, fun k => (hb.frozen (p := ⟨w.heap.size, k, none⟩) h.z).trans (h.f k)⟩

set_option maxRecDepth 20000 in
set_option maxHeartbeats 2000000 in
theorem kind_any (n c : Nat) (K : KK) (x : Int) (A : Option Addr) (w : World) (hR : RdK w A n K) (hn : n ≤ 1000) :
    Calls Try.prog 43 #[.slice A n c, .int .i64 x] w fun e w' => e = .returned (kV K (kFirst K x n)) ∧ Below w.heap.size w w' := by
  have HR := Lib.hid hR
  have HN := Lib.hid hn
  clear hR
  go_enter Try.func43, Try.ntmps43
  go_wp2
  go_loopw [9] (fun i wr => ∃ k : Nat, k ≤ n ∧ i = .int .i64 k ∧ Hid (kFirst K x k = none) ∧ KRel w wr) (fun i _ => n - (intOf i).toNat)
  case atStart => exact ⟨0, Nat.zero_le _, rfl, Lib.hid rfl, Joins.below_alloc1 _ _, by simp, by simp [go_sem], by simp [go_sem], by simp [go_sem], by simp [go_sem], fun k => by simp [go_sem]⟩
  case round =>
    obtain ⟨k, hk, rfl, HK, hrl⟩ := hrel
    have HREL := Lib.hid hrl
    obtain ⟨hb, hz, d0, d1, d2, d3, fz⟩ := hrl
    by_cases hlt : k < n
    · have hlti : (k : Int) < (n : Int) := by omega
      obtain ⟨b, off, rfl, hbz, q0, q1, q2, q3⟩ := (HR.out.below hb).at_ hlt
      have HLT := Lib.hid hlt
      obtain ⟨y, hy⟩ : ∃ y, y = K.id k := ⟨_, rfl⟩
      rw [← hy] at q0
      have HY := Lib.hid hy
      clear hb hy
      by_cases he : y = x
      · have he2 : (y == x) = true := beq_iff_eq.2 he
        have HV : Hid (kFirst K x n = some k) := Lib.hid (by
          have h1 : kFirst K x (k + 1) = some k := by rw [kFirst, HK.out]; simp [← HY.out, he]
          have h2 := kFirst_mono (n - (k + 1)) h1
          rwa [show k + 1 + (n - (k + 1)) = n by have := HLT.out; omega] at h2)
        have hbe := HREL.out.be
        clear he
        go_wp2
        refine bodyPost_ret (v := kV K (some k)) (by rw [kV, ← HY.out]; simp [results, Try.results43, go_sem, d0, d1, d2, d3, hz]; try rfl) rfl ?_
        refine ⟨by rw [HV.out], ?_⟩
        have hse : ∀ (p : Nat) (v : Value) (W : World), Below w.heap.size w W → Below w.heap.size w (W.setCell ⟨w.heap.size, p, none⟩ v) := fun p v W h => h.setCell (Nat.le_refl w.heap.size) v
        first
          | exact hse _ _ _ (hse _ _ _ (hse _ _ _ (hse _ _ _ (thru hbe (Joins.below_alloc1 _ _) hbe.size))))
          | exact thru (hse _ _ _ (hse _ _ _ (hse _ _ _ (hse _ _ _ hbe)))) (Joins.below_alloc1 _ _) (by simpa using hbe.size)
      · have he2 : (y == x) = false := beq_eq_false_iff_ne.2 he
        have HV : Hid (kFirst K x (k + 1) = none) := Lib.hid (by rw [kFirst, HK.out]; simp [← HY.out, he])
        clear he
        go_wp2
        go_roundw
        case rel => exact ⟨k + 1, HLT.out, by go_num, HV, HREL.out.on (Joins.below_alloc1 _ _)⟩
        case measure => have := HLT.out; simp [intOf]; omega
    · have hlti : decide ((k : Int) < (n : Int)) = false := decide_eq_false (by omega)
      have HV : Hid (kFirst K x n = none) := Lib.hid (by rw [← show k = n by omega]; exact HK.out)
      have hbe := HREL.out.be
      clear hb
      go_wp2
      refine bodyPost_ret (v := kV K none) (by rw [kV]; simp [results, Try.results43, go_sem, d0, d1, d2, d3]; try rfl) rfl ?_
      refine ⟨by rw [HV.out], ?_⟩
      exact (((hbe.setCell (Nat.le_refl _) _).setCell (Nat.le_refl _) _).setCell (Nat.le_refl _) _).setCell (Nat.le_refl _) _
end Go.Proofs.Ytljhocdbfbjpiaa
