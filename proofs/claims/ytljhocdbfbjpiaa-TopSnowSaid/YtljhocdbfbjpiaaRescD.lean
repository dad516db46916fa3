/-
  The search for the teams: at its end, and one section of it.
-/
import Derived.Test.YtljhocdbfbjpiaaRescC
import Derived.Laws.CopyOwn
import Derived.Deep.RegionLaw
import Derived.Test.YtljhocdbfbjpiaaBelowAid
namespace Go.Proofs.Ytljhocdbfbjpiaa
open Go.RowKit

def rtMax (t : RT) : Int := maxTo [t.x 0, t.x 1, t.x 2, t.x 3] 3
def rtLeaf (t : RT) : RT := if t.e < 0 ∨ rtMax t < t.e then { t with e := rtMax t, b := t.n } else t
def RescPost (s g c : Nat) (w : World) (t : RT) (e : Ending) (W' : World) : Prop := e = .returned (.tuple #[]) ∧ RS s g c w W' t

theorem RS.src {s g c : Nat} {w W : World} {t : RT} (h : RS s g c w W t) : ∀ (j : Nat) (v : Value), [Value.int .i64 (t.n 0), Value.int .i64 (t.n 1)][j]? = some v → W.cell? ((⟨s + 2, 0, none⟩ : Addr).add j) = some v := fun j v hv => by
  rw [Go.WideShapes.add_plain, Nat.zero_add]
  match j, hv with
  | 0, hv => simp at hv; subst hv; exact h.n 0 (by omega)
  | 1, hv => simp at hv; subst hv; exact h.n 1 (by omega)
theorem two_cells (a b : Int) : ∀ v ∈ [Value.int .i64 a, Value.int .i64 b], v.oneCell' = true := fun v hv => by
  simp only [List.mem_cons, List.not_mem_nil, or_false] at hv
  rcases hv with rfl | rfl <;> rfl
set_option maxRecDepth 20000 in
set_option maxHeartbeats 4000000 in
theorem resc_leaf (s g c : Nat) (w W : World) (t : RT) (hS : RS s g c w W t) :
    Calls Try.prog 81 (rsArgs s 2) W (RescPost s g c w (rtLeaf t)) := by
  have hrd : Rd W (some ⟨s + 7, 0, none⟩) [t.x 0, t.x 1, t.x 2, t.x 3] := fun _ => by
    refine ⟨s + 7, 0, rfl, by have := hS.lo; omega, fun i hi => ?_⟩
    have hi4 : i < 4 := by simpa using hi
    rw [Nat.zero_add, hS.x i hi4]
    obtain rfl | rfl | rfl | rfl : i = 0 ∨ i = 1 ∨ i = 2 ∨ i = 3 := by omega
    all_goals rfl
  have hC := max_any [t.x 0, t.x 1, t.x 2, t.x 3] (some ⟨s + 7, 0, none⟩) 4 W (by simp) (by simp) hrd
  have he : maxTo [t.x 0, t.x 1, t.x 2, t.x 3] ([t.x 0, t.x 1, t.x 2, t.x 3].length - 1) = rtMax t := rfl
  rw [he] at hC
  obtain ⟨m, hm⟩ : ∃ m, m = rtMax t := ⟨_, rfl⟩
  rw [← hm] at hC
  simp only [List.length_cons, List.length_nil, Nat.zero_add, Nat.reduceAdd] at hC
  have HC := Lib.hid hC
  have HM := Lib.hid hm
  have HS := Lib.hid hS
  have c0 := hS.c0
  have c3 := hS.c3
  have c5 := hS.c5
  have ce := hS.e
  have f6 := hS.f6
  have lo := hS.lo
  have z0 : s < W.heap.size := by omega
  have z3 : s + 3 < W.heap.size := by omega
  have z5 : s + 5 < W.heap.size := by omega
  have z6 : s + 6 < W.heap.size := by omega
  clear hC hm he hrd hS
  obtain ⟨e0, he0⟩ : ∃ e, e = t.e := ⟨_, rfl⟩
  rw [← he0] at ce
  have HE0 := Lib.hid he0
  clear he0
  by_cases hn : e0 < 0
  · skip
    have ht : rtLeaf t = { t with e := m, b := t.n } := by unfold rtLeaf; rw [if_pos (.inl (by rw [← HE0.out]; exact hn)), HM.out]
    rw [ht]
    have HB := Lib.hid ((HS.out.setE m).better)
    clear ht
    go_enter Try.func81, Try.ntmps81
    go_wp2_with fail
    refine HC.out.mono ?_
    rintro e w2 ⟨rfl, rfl⟩
    clear HC
    go_wp2_with (first
      | (refine wpList_copy_own rfl (.tmp 25) (.tmp 26) 28 28 rfl 3 Try.underlying28 int_size (s + 4) 0 2 2 ⟨s + 2, 0, none⟩ 2 2 rfl rfl #[.int .i64 (t.b 0), .int .i64 (t.b 1)] 3 ((HS.out.setE m).b) [.int .i64 (t.n 0), .int .i64 (t.n 1)] rfl ((HS.out.setE m).src) (by simp) (two_cells _ _) ?_)
      | fail)
    go_wp2
    exact bodyPost_ret (results_none rfl _ _ _) rfl ⟨rfl, HB.out⟩
  · have hn2 : decide (e0 < 0) = false := decide_eq_false hn
    by_cases hl : m < e0
    · skip
      have ht : rtLeaf t = { t with e := m, b := t.n } := by unfold rtLeaf; rw [if_pos (.inr (by rw [← HE0.out, ← HM.out]; exact hl)), HM.out]
      rw [ht]
      have HB := Lib.hid ((HS.out.setE m).better)
      clear ht
      go_enter Try.func81, Try.ntmps81
      go_wp2_with fail
      refine HC.out.mono ?_
      rintro e w2 ⟨rfl, rfl⟩
      clear HC
      go_wp2_with (first
        | (refine wpList_copy_own rfl (.tmp 25) (.tmp 26) 28 28 rfl 3 Try.underlying28 int_size (s + 4) 0 2 2 ⟨s + 2, 0, none⟩ 2 2 rfl rfl #[.int .i64 (t.b 0), .int .i64 (t.b 1)] 3 ((HS.out.setE m).b) [.int .i64 (t.n 0), .int .i64 (t.n 1)] rfl ((HS.out.setE m).src) (by simp) (two_cells _ _) ?_)
        | fail)
      go_wp2
      exact bodyPost_ret (results_none rfl _ _ _) rfl ⟨rfl, HB.out⟩
    · have hl2 : decide (m < e0) = false := decide_eq_false hl
      have ht : rtLeaf t = t := by
        unfold rtLeaf
        rw [if_neg (fun h => by
          rw [← HE0.out, ← HM.out] at h
          omega)]
      rw [ht]
      clear ht
      go_enter Try.func81, Try.ntmps81
      go_wp2_with fail
      refine HC.out.mono ?_
      rintro e w2 ⟨rfl, rfl⟩
      clear HC
      go_wp2
      exact bodyPost_ret (results_none rfl _ _ _) rfl ⟨rfl, HS.out⟩

set_option maxRecDepth 20000 in
set_option maxHeartbeats 4000000 in
theorem resc_level (s g c : Nat) (w W : World) (i : Nat) (v : Int) (st po : Nat → RT) (hi : i < 2) (hg : g < s) (hv : w.cell? ⟨g, i * 3 + 2, none⟩ = some (.int .i64 v)) (hvb : 0 ≤ v ∧ v ≤ 1000)
    (hx : ∀ t, 1 ≤ t → t ≤ 2 → (-1000 ≤ (st t).x t ∧ (st t).x t ≤ 1000) ∧ (-1000 ≤ (po t).x t ∧ (po t).x t ≤ 1000))
    (IH : ∀ t : Nat, 1 ≤ t → t ≤ 2 → (∀ W1, RS s g c w W1 { st t with n := upd (st t).n i t, x := upd (st t).x t ((st t).x t + v) } → Calls Try.prog 81 (rsArgs s (i + 1)) W1 (RescPost s g c w (po t))) ∧ st (t + 1) = { po t with x := upd (po t).x t ((po t).x t - v) })
    (hS : RS s g c w W (st 1)) :
    Calls Try.prog 81 (rsArgs s i) W (RescPost s g c w (st 3)) := by
  have HS := Lib.hid hS
  have HX := Lib.hid hx
  have HIH := Lib.hid IH
  have HV := Lib.hid hv
  have c0 := hS.c0
  have lo := hS.lo
  have z0 : s < W.heap.size := by omega
  have hi2 : (i : Int) < 2 := by omega
  have hin : ((i : Int) == 2) = false := beq_eq_false_iff_ne.2 (by omega)
  have HI := Lib.hid hi
  have HGS := Lib.hid hg
  clear hS hx IH hv lo hi hg
  go_enter Try.func81, Try.ntmps81
  go_wp2
  go_loopw [10] (fun j wr => ∃ t : Nat, 1 ≤ t ∧ t ≤ 3 ∧ j = .int .i64 t ∧ RS s g c w wr (st t)) (fun j _ => 3 - (intOf j).toNat)
  case atStart => exact ⟨1, by omega, by omega, rfl, HS.out⟩
  case round =>
    obtain ⟨t, ht1, ht3, rfl, hR⟩ := hrel
    clear c0 z0
    have HR := Lib.hid hR
    have c1 := hR.c1
    have lo := hR.lo
    have z1 : s + 1 < wr.heap.size := by omega
    by_cases hlt : t ≤ 2
    · have hti : (t : Int) ≤ 2 := by omega
      have hti4 : (t : Int) < 4 := by omega
      have c0 := hR.c0
      have c3 := hR.c3
      have c8 := hR.c8
      have cn := hR.n i HI.out
      have fn := hR.f2 i
      have cx := hR.x t (by omega)
      have fx := hR.f7 t
      have cv : wr.cell? ⟨g, i * 3 + 2, none⟩ = some (.int .i64 v) := (hR.be.cell (p := ⟨g, i * 3 + 2, none⟩) HGS.out).trans HV.out
      have z0 : s < wr.heap.size := by omega
      have z2 : s + 2 < wr.heap.size := by omega
      have z3 : s + 3 < wr.heap.size := by omega
      have z7 : s + 7 < wr.heap.size := by omega
      have z8 : s + 8 < wr.heap.size := by omega
      have zg : g < wr.heap.size := by have := HGS.out; omega
      have ng1 : ¬ (s + 2 = g) := by have := HGS.out; omega
      have ng2 : ¬ (s + 7 = g) := by have := HGS.out; omega
      obtain ⟨⟨b1, b2⟩, ⟨b3, b4⟩⟩ := HX.out t ht1 hlt
      obtain ⟨h1, h2⟩ := HIH.out t ht1 hlt
      obtain ⟨X, hX⟩ : ∃ X, X = (st t).x t := ⟨_, rfl⟩
      rw [← hX] at cx b1 b2
      have e1 : IntKind.i64.wrap (X + v) = X + v := IntWalk.i64_in _ (by omega)
      have HX1 := Lib.hid hX
      have H1 := Lib.hid h1
      have H2 := Lib.hid h2
      have HT := Lib.hid (And.intro ht1 hlt)
      clear hX h1 h2 hR ht3
      go_wp2
      go_region
      go_wp2_with fail
      have hR2 := ((HR.out.setN HI.out (t : Int)).setX (i := t) (by omega) (X + v)).on (below_drew (Below.refl _ _))
      have hC := H1.out _ (by rw [← HX1.out]; exact hR2)
      have HC := Lib.hid hC
      clear hC hR2
      refine HC.out.mono ?_
      rintro e w3 ⟨rfl, hR3⟩
      have HR3 := Lib.hid hR3
      have lo3 := hR3.lo
      have d0 := hR3.c0
      have dx := hR3.x t (by omega)
      have gx := hR3.f7 t
      have dv : w3.cell? ⟨g, i * 3 + 2, none⟩ = some (.int .i64 v) := (hR3.be.cell (p := ⟨g, i * 3 + 2, none⟩) HGS.out).trans HV.out
      have y0 : s < w3.heap.size := by omega
      have y7 : s + 7 < w3.heap.size := by omega
      have yg : g < w3.heap.size := by have := HGS.out; omega
      obtain ⟨Y, hY⟩ : ∃ Y, Y = (po t).x t := ⟨_, rfl⟩
      rw [← hY] at dx b3 b4
      have e2 : IntKind.i64.wrap (Y - v) = Y - v := IntWalk.i64_in _ (by omega)
      have hR4 := (hR3.setX (i := t) (by omega) (Y - v)).on (below_drew (Below.refl _ _))
      rw [hY, ← H2.out] at hR4
      rw [← hY] at hR4
      have HR4 := Lib.hid hR4
      clear hR3 hR4 hY HC cx fx cv c0 c1 c3 c8 cn fn z0 z1 z2 z3 z7 z8 zg lo
      go_wp2
      go_region
      go_wp2
      go_roundw
      case rel => exact ⟨t + 1, by omega, by have := HT.out.2; omega, by go_num, HR4.out⟩
      case measure => have := HT.out; simp [intOf]; omega
    · have ht : t = 3 := by omega
      subst ht
      have hlt3 : decide (((3 : Nat) : Int) ≤ 2) = false := rfl
      go_wp2
      exact bodyPost_end (results_none rfl _ _ _) rfl ⟨rfl, HR.out⟩
end Go.Proofs.Ytljhocdbfbjpiaa
