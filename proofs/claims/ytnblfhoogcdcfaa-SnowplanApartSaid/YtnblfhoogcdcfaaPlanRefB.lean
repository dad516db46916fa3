/-
  The walk of the reference's search, which calls itself.
-/
import Derived.Test.YtnblfhoogcdcfaaPlanRef
namespace Go.Proofs.Ytnblfhoogcdcfaa
open Go.RowKit

namespace Plan
theorem acc_head {gs : List Gun} {h : Hour} {hs : List Hour} (a : Acc gs (h :: hs)) : Acc gs [h] := ⟨a.gl, by simp, a.g, fun x hx => a.h x (by simp at hx; simp [hx])⟩
theorem acc_tail {gs : List Gun} {h : Hour} {hs : List Hour} (a : Acc gs (h :: hs)) : Acc gs hs := ⟨a.gl, by have := a.hl; simp at this; omega, a.g, fun x hx => a.h x (by simp [hx])⟩
theorem uV_bd {gs : List Gun} {h : Hour} {hs : List Hour} (a : Acc gs (h :: hs)) (s : Nat) : (0 ≤ uV gs h s ∧ uV gs h s ≤ 5000000000) ∧ (0 ≤ uW gs s ∧ uW gs s ≤ 5000000000) ∧ (0 ≤ uP gs s ∧ uP gs s ≤ 5000000000) := u_bd a 0 s
theorem gr_bd {gs : List Gun} : ∀ {hs : List Hour}, Acc gs hs → ∀ {left : Int}, 0 ≤ left → 0 ≤ gr gs hs left ∧ gr gs hs left ≤ hs.length * 5000000000
  | [], _, _, _ => ⟨Int.le_refl _, by simp [gr]⟩
  | h :: hs, a, left, h0 => by
    have hp : ∀ x ∈ h :: hs, 0 ≤ x.power := fun x hx => (okHour_iff.1 (a.h x hx)).1.1
    have hz := (foldM_spec (fit gs h left) (fun set => uV gs h set + gr gs hs (left - uW gs set)) (List.range (2 ^ gs.length)) (-1))
    obtain ⟨f1, f2, f3⟩ := hz
    have hz := f2 0 (List.mem_range.2 (Nat.two_pow_pos _)) (fit_zero gs h0 (hp h (by simp)))
    rw [(u_zero gs h).1, (u_zero gs h).2.1, Int.sub_zero, Int.zero_add] at hz
    have hg0 := gr_bd (acc_tail a) h0
    have e : ((h :: hs).length : Int) * 5000000000 = hs.length * 5000000000 + 5000000000 := by rw [List.length_cons, Int.natCast_add, Int.add_mul]; simp
    rw [e]
    rcases f3 with f3 | ⟨s, hs1, hs2, f3⟩
    · omega
    · have hl : 0 ≤ left - uW gs s := by have := (fit_iff.1 hs2).1; omega
      have h1 := gr_bd (acc_tail a) hl
      have h2 := (uV_bd a s).1
      simp only [gr]
      omega
theorem worth_one (gs : List Gun) (h : Hour) (s : Nat) : worthE gs [h] [memL gs.length s] = (uV gs h s, uW gs s, true) := by
  show wFrom gs [h] [memL gs.length s] 0 0 = _
  rw [wFrom, if_pos memL_ok, wFrom, Int.zero_add, Int.zero_add]; rfl
def grTo (gs : List Gun) (h : Hour) (hs : List Hour) (left : Int) (s : Nat) : Int := foldM (fit gs h left) (fun set => uV gs h set + gr gs hs (left - uW gs set)) (-1) (List.range s)
theorem grTo_succ (gs : List Gun) (h : Hour) (hs : List Hour) (left : Int) (s : Nat) : grTo gs h hs left (s + 1) = if fit gs h left s = true then max (grTo gs h hs left s) (uV gs h s + gr gs hs (left - uW gs s)) else grTo gs h hs left s := by
  unfold grTo foldM; rw [List.range_succ, List.foldl_append]; rfl
end Plan
theorem RdH.head {w : World} {b off : Nat} {h : Plan.Hour} {hs : List Plan.Hour} (hH : RdH w (some ⟨b, off, none⟩) (h :: hs)) : RdH w (some ⟨b, off, none⟩) [h] := fun _ => by
  obtain ⟨b', off', e, h1, h2⟩ := hH (by simp)
  refine ⟨b', off', e, h1, fun i hi => ?_⟩
  obtain rfl : i = 0 := by simp at hi; omega
  exact h2 0 (by simp)
theorem RdH.tail {w : World} {b off : Nat} {h : Plan.Hour} {hs : List Plan.Hour} (hH : RdH w (some ⟨b, off, none⟩) (h :: hs)) : RdH w (some ⟨b, off + 2, none⟩) hs := fun hp => by
  obtain ⟨b', off', e, h1, h2⟩ := hH (by simp)
  injection e with e
  injection e with e1 e2
  subst e1 e2
  refine ⟨b, off + 2, rfl, h1, fun i hi => ?_⟩
  have h3 := h2 (i + 1) (by simp; omega)
  have e : Plan.hAt (h :: hs) (i + 1) = Plan.hAt hs i := by simp [Plan.hAt]
  rw [e] at h3
  rw [show off + 2 + i * 2 = off + (i + 1) * 2 by omega]
  exact h3
/-- What the search hands back: a row of plans, and the greatest value. -/
def PlansPost (w : World) (gs : List Plan.Gun) (hs : List Plan.Hour) (left : Int) (e : Ending) (w' : World) : Prop :=
  ∃ (v : Value) (xs : List Value), e = .returned (.tuple #[v, .int .i64 (Plan.gr gs hs left)]) ∧ w'.ownsRow w.heap.size 45 1 v hs.length xs ∧ (∀ u ∈ xs, u.oneCell' = true) ∧ (hs = [] → v = .slice none 0 0) ∧ Below w.heap.size w w'
theorem plans_nil (gs : List Plan.Gun) (left : Int) (A B : Option Addr) (c d : Nat) (w : World) : Calls Try.prog 27 #[.slice A gs.length c, .slice B ([] : List Plan.Hour).length d, .int .i64 left] w (PlansPost w gs [] left) := by
  have e0 : ([] : List Plan.Hour).length = 0 := rfl
  rw [e0]
  unfold PlansPost
  go_enter Try.func27, Try.ntmps27
  go_wp2
  go_ret2
  exact ⟨_, [], rfl, World.ownsRow_nil _ _ _ _, by simp, fun _ => rfl, Below.refl _ _⟩

theorem own_one {B : Nat} (w : World) (x : Value) (t : TypeId) (hB : B ≤ w.heap.size) : (w.alloc (.cells #[x] t)).ownsRow B t 1 (.slice (some ⟨w.heap.size, 0, none⟩) 1 1) 1 [x] :=
  ⟨rfl, .inr ⟨w.heap.size, 1, #[x], rfl, hB, heap_alloc_new w _, Nat.le_refl _, by simp [maxLen], rfl, rfl⟩⟩
theorem heap_alloc_old_cell (w : World) (o : Obj) {g : Nat} (hg : g < w.heap.size) (j : Nat) : (w.alloc o).cell? ((⟨g, 0, none⟩ : Addr).add j) = w.cell? ((⟨g, 0, none⟩ : Addr).add j) := by
  rw [Go.WideShapes.add_plain]
  exact (Joins.below_alloc1 w o).cell (p := ⟨g, 0 + j, none⟩) hg

end Go.Proofs.Ytnblfhoogcdcfaa
