/-
  The assignment of the example: its cost is 2.
-/
import Derived.Test.YtljhocdbfbjpiaaAsgD
import Derived.Test.YtljhocdbfbjpiaaBelowAid
import Derived.Test.YtljhocdbfbjpiaaPlanBest
namespace Go.Proofs.Ytljhocdbfbjpiaa
open Go.RowKit

def rowA (k : Nat) : Int := if k = 0 then 5 else 1
def rowB (k : Nat) : Int := if k = 0 then 1 else 5
def stA (k : Nat) : Bool × Int := if k = 0 then (false, 0) else if k = 1 then (true, 10) else (true, 2)
def stB (k : Nat) : Bool × Int := if k = 2 then (true, 10) else (false, 0)
def stC (k : Nat) : Bool × Int := if k = 0 then (true, 10) else (true, 2)
theorem two_of {k : Nat} (h : k < 2) : k = 0 ∨ k = 1 := by omega
theorem asg_B (s b r0 r1 : Nat) (w W : World) (hM : Mat w b r0 r1) (hb : b < s) (h1 : r1 < s) (hS : AS s b w W false 0 [0]) :
    Calls Try.prog 53 (asgArgs s 5) W (AsgPost s b w true 10 [0]) := by
  refine asg_level s b r1 [0] 5 rowB stB w W (by simp) hb h1 hM.c1 (fun k hk => ?_) (by omega) (fun k => by unfold rowB; split <;> omega) (fun h => by simp [stB] at h) (fun k hk => ?_) hS
  · rcases two_of hk with rfl | rfl
    · exact hM.b0
    · exact hM.b1
  · rcases two_of hk with rfl | rfl
    · exact ⟨fun _ => rfl, fun h => absurd (by simp) h⟩
    · refine ⟨fun h => absurd h (by simp), fun _ W1 h1 => ?_⟩
      exact asg_leaf s b 0 1 10 false 0 w W1 (fun h => absurd h (by simp)) h1
theorem asg_C (s b r0 r1 : Nat) (w W : World) (hM : Mat w b r0 r1) (hb : b < s) (h1 : r1 < s) (hS : AS s b w W true 10 [1]) :
    Calls Try.prog 53 (asgArgs s 1) W (AsgPost s b w true 2 [1]) := by
  refine asg_level s b r1 [1] 1 rowB stC w W (by simp) hb h1 hM.c1 (fun k hk => ?_) (by omega) (fun k => by unfold rowB; split <;> omega) (fun _ => by simp [stC]) (fun k hk => ?_) hS
  · rcases two_of hk with rfl | rfl
    · exact hM.b0
    · exact hM.b1
  · rcases two_of hk with rfl | rfl
    · refine ⟨fun h => absurd h (by simp), fun _ W1 h1 => ?_⟩
      exact asg_leaf s b 1 0 2 true 10 w W1 (fun _ => by omega) h1
    · exact ⟨fun _ => rfl, fun h => absurd (by simp) h⟩
theorem asg_A (s b r0 r1 : Nat) (w W : World) (hM : Mat w b r0 r1) (hb : b < s) (h0 : r0 < s) (h1 : r1 < s) (hS : AS s b w W false 0 []) :
    Calls Try.prog 53 (asgArgs s 0) W (AsgPost s b w true 2 []) := by
  refine asg_level s b r0 [] 0 rowA stA w W (by simp) hb h0 hM.c0 (fun k hk => ?_) (by omega) (fun k => by unfold rowA; split <;> omega) (fun h => by simp [stA] at h) (fun k hk => ?_) hS
  · rcases two_of hk with rfl | rfl
    · exact hM.a0
    · exact hM.a1
  · rcases two_of hk with rfl | rfl
    · refine ⟨fun h => absurd h (by simp), fun _ W1 h2 => ?_⟩
      exact asg_B s b r0 r1 w W1 hM hb h1 h2
    · refine ⟨fun h => absurd h (by simp), fun _ W1 h2 => ?_⟩
      exact asg_C s b r0 r1 w W1 hM hb h1 h2

set_option maxRecDepth 20000 in
set_option maxHeartbeats 4000000 in
theorem asg_best (b r0 r1 : Nat) (w : World) (hM : Mat w b r0 r1) (hb : b < w.heap.size) (h0 : r0 < w.heap.size) (h1 : r1 < w.heap.size) :
    Calls Try.prog 21 #[.slice (some ⟨b, 0, none⟩) 2 2] w fun e w' => (∃ v, e = .returned (.tuple #[v, .int .i64 2, .int .i64 0])) ∧ Below w.heap.size w w' := by
  have HM := Lib.hid hM
  have HBB := Lib.hid (And.intro hb (And.intro h0 h1))
  clear hM hb h0 h1
  have hR := aright_any b r0 r1 (w.alloc (.cells #[.slice (some ⟨b, 0, none⟩) 2 2] 24)) (by
    obtain ⟨m0, m1, m2, m3, m4, m5⟩ := HM.out
    obtain ⟨z0, z1, z2⟩ := HBB.out
    have e : ∀ (q o : Nat), q < w.heap.size → (w.alloc (.cells #[.slice (some ⟨b, 0, none⟩) 2 2] 24)).cell? ⟨q, o, none⟩ = w.cell? ⟨q, o, none⟩ := fun q o h => (Joins.below_alloc1 w _).cell (p := ⟨q, o, none⟩) h
    exact ⟨(e _ _ z0).trans m0, (e _ _ z0).trans m1, (e _ _ z1).trans m2, (e _ _ z1).trans m3, (e _ _ z2).trans m4, (e _ _ z2).trans m5⟩)
  have HR := Lib.hid hR
  clear hR
  go_enter Try.func21, Try.ntmps21
  go_wp2_with fail
  refine HR.out.mono ?_
  rintro e w2 ⟨rfl, rfl⟩
  clear HR
  go_wp2_with fail
  have hA := asg_A w.heap.size b r0 r1 w ((((((w.alloc (.cells #[.slice (some ⟨b, 0, none⟩) 2 2] 24)).alloc (.cells #[.slice none 0 0] 28)).alloc (.cells #[.slice none 0 0] 28)).alloc (.cells #[.int .i64 0] 3)).alloc (.cells #[.bool false] 4)).alloc (.cells #[.func (.func 53) #[] (asgCaps w.heap.size)] 134)) HM.out HBB.out.1 HBB.out.2.1 HBB.out.2.2
    ⟨by go_grown, by simp, by simp [go_sem], ⟨none, 0, 0, by simp [go_sem]⟩, ⟨none, 0, by simp [go_sem], by simp, World.ownsRow_nil _ _ _ _⟩, by simp [go_sem], by simp [go_sem], by simp [go_sem], by simp [go_sem], by simp [go_sem], by simp [go_sem], by simp [go_sem]⟩
  have HA := Lib.hid hA
  clear hA
  refine HA.out.mono ?_
  rintro e w3 ⟨rfl, hS3⟩
  obtain ⟨be, lo, -, ⟨A3, n3, c3, hbv⟩, -, hl, -⟩ := hS3
  have z1 : w.heap.size + 1 < w3.heap.size := by omega
  have z3 : w.heap.size + 1 + 1 + 1 < w3.heap.size := by omega
  have BE := Lib.hid be
  clear be HA
  go_wp2
  go_quiet (fail)
  go_wp2
  refine bodyPost_ret (results_tmp3 rfl _ _ _) rfl ?_
  exact ⟨⟨_, rfl⟩, BE.out.trans (Joins.below_draws _ _ _)⟩
end Go.Proofs.Ytljhocdbfbjpiaa
