/-
  A whole system stored into a variable, at one step.
-/
import Derived.Test.YtljhocdbfbjpiaaWtStepA
import Derived.Deep.MidRow
namespace Go.Proofs.Ytljhocdbfbjpiaa
open Go.RowKit

theorem sys_size : (Try.prog.info? 41).map (·.size) = some 13 := by kernel_rfl
theorem one13 (A0 A1 A2 A3 A4 A5 : Option Addr) (n0 n1 n2 n3 n4 n5 c0 c1 c2 c3 c4 c5 : Nat) (p l t wa lo en inn : Int) : (#[.slice A0 n0 c0, .slice A1 n1 c1, .slice A2 n2 c2, .slice A3 n3 c3, .slice A4 n4 c4, .slice A5 n5 c5, .int .i64 p, .int .i64 l, .int .i64 t, .int .i64 wa, .int .i64 lo, .int .i64 en, .int .i64 inn] : Array Value).all (fun v => v.oneCell') = true := by
  simp [Value.oneCell']
theorem setCells_only (b : Nat) : ∀ (vs : List Value) (o : Nat) (w : World), Only b w (w.setCells b o vs)
  | [], _, w => Only.refl b w
  | v :: vs, o, w => by
    have h := setCells_only b vs (o + 1) (w.setCell ⟨b, o, none⟩ v)
    exact ((Only.refl b w).setCell o v).trans h
theorem BoxAt.there {w : World} {s : Nat} {v0 v1 v2 v3 v4 v5 : Value} {p l t wa lo en inn : Int} (h : BoxAt w s v0 v1 v2 v3 v4 v5 p l t wa lo en inn) : w.there s 0 13 := fun j hj => by
  refine ⟨?_, h.f _⟩
  rw [Nat.zero_add]
  rcases (by omega : j = 0 ∨ j = 1 ∨ j = 2 ∨ j = 3 ∨ j = 4 ∨ j = 5 ∨ j = 6 ∨ j = 7 ∨ j = 8 ∨ j = 9 ∨ j = 10 ∨ j = 11 ∨ j = 12) with rfl | rfl | rfl | rfl | rfl | rfl | rfl | rfl | rfl | rfl | rfl | rfl | rfl
  · rw [h.c0]; rfl
  · rw [h.c1]; rfl
  · rw [h.c2]; rfl
  · rw [h.c3]; rfl
  · rw [h.c4]; rfl
  · rw [h.c5]; rfl
  · rw [h.c6]; rfl
  · rw [h.c7]; rfl
  · rw [h.c8]; rfl
  · rw [h.c9]; rfl
  · rw [h.c10]; rfl
  · rw [h.c11]; rfl
  · rw [h.c12]; rfl
theorem BoxAt.stored {w : World} {s : Nat} {u0 u1 u2 u3 u4 u5 : Value} {q0 q1 q2 q3 q4 q5 q6 : Int} (hb : BoxAt w s u0 u1 u2 u3 u4 u5 q0 q1 q2 q3 q4 q5 q6) (v0 v1 v2 v3 v4 v5 : Value) (p l t wa lo en inn : Int) : BoxAt (w.setCells s 0 [v0, v1, v2, v3, v4, v5, .int .i64 p, .int .i64 l, .int .i64 t, .int .i64 wa, .int .i64 lo, .int .i64 en, .int .i64 inn]) s v0 v1 v2 v3 v4 v5 p l t wa lo en inn := by
  have hr := World.rangeAt_setCells_same w s 0 [v0, v1, v2, v3, v4, v5, .int .i64 p, .int .i64 l, .int .i64 t, .int .i64 wa, .int .i64 lo, .int .i64 en, .int .i64 inn] (by simpa using hb.there)
  have ho := setCells_only s [v0, v1, v2, v3, v4, v5, .int .i64 p, .int .i64 l, .int .i64 t, .int .i64 wa, .int .i64 lo, .int .i64 en, .int .i64 inn] 0 w
  have hc : ∀ (j : Nat) (v : Value), [v0, v1, v2, v3, v4, v5, .int .i64 p, .int .i64 l, .int .i64 t, .int .i64 wa, .int .i64 lo, .int .i64 en, .int .i64 inn][j]? = some v → (w.setCells s 0 [v0, v1, v2, v3, v4, v5, .int .i64 p, .int .i64 l, .int .i64 t, .int .i64 wa, .int .i64 lo, .int .i64 en, .int .i64 inn]).cell? ⟨s, j, none⟩ = some v := fun j v hv => by
    have := hr j v hv
    rwa [Nat.zero_add] at this
  refine ⟨by rw [ho.size]; exact hb.z, hc 0 _ rfl, hc 1 _ rfl, hc 2 _ rfl, hc 3 _ rfl, hc 4 _ rfl, hc 5 _ rfl, hc 6 _ rfl, hc 7 _ rfl, hc 8 _ rfl, hc 9 _ rfl, hc 10 _ rfl, hc 11 _ rfl, hc 12 _ rfl, fun k => ?_⟩
  rw [World.frozen?_setCells]; exact hb.f k
theorem RIU.only {lo hi b : Nat} {w W : World} {A : Option Addr} {k n : Nat} {f : Nat → Nat → Int} (h : RIU lo hi w A k n f) (ho : Only b w W) (hb : b < lo) : RIU lo hi W A k n f := fun hp => by
  obtain ⟨c, off, e, h0, h1, h2⟩ := h hp
  exact ⟨c, off, e, h0, h1, fun i hi' j hj => (ho.cell (by omega) _).trans (h2 i hi' j hj)⟩
theorem OwnI.only {B b : Nat} {w W : World} {g k n : Nat} {F : Nat → Nat → Int} (h : OwnI B w g k n F) (ho : Only b w W) (hb : g ≠ b) : OwnI B W g k n F :=
  ⟨h.lo, by rw [ho.size]; exact h.z, fun i hi j hj => (ho.cell hb _).trans (h.c i hi j hj), fun i => (ho.frozen hb i).trans (h.f i)⟩
end Go.Proofs.Ytljhocdbfbjpiaa
