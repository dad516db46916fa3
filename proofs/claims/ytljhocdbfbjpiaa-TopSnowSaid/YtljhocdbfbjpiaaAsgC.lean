/-
  The search for an assignment: at its end, and one step of it.
-/
import Derived.Test.YtljhocdbfbjpiaaAsgB
namespace Go.Proofs.Ytljhocdbfbjpiaa
open Go.RowKit

def AsgPost (s b : Nat) (w : World) (f : Bool) (l : Int) (xs : List Int) (e : Ending) (W' : World) : Prop := e = .returned (.tuple #[]) ∧ AS s b w W' f l xs
set_option maxRecDepth 20000 in
set_option maxHeartbeats 4000000 in
theorem asg_leaf (s b : Nat) (x y : Int) (T : Int) (f : Bool) (l : Int) (w W : World) (hg : f = true → T < l) (hS : AS s b w W f l [x, y]) :
    Calls Try.prog 53 (asgArgs s T) W (AsgPost s b w true T [x, y]) := by
  obtain ⟨A, c, hp, hpc, hpo⟩ := hS.p
  obtain ⟨Ab, nb, cb, hbv⟩ := hS.bv
  obtain ⟨g, cap, hv, hgB, hgz⟩ := hpo.form (by simp)
  injection hv with hv _ hcc
  subst hv hcc
  have hrd := owns_rd hpo
  have HRD := Lib.hid hrd
  have HPO := Lib.hid hpo
  have HS := Lib.hid hS
  obtain ⟨be, lo, hc, -, -, hl, hf, ht, f1, f2, f3, f4⟩ := hS
  have z0 : s < W.heap.size := by omega
  have z1 : s + 1 < W.heap.size := by omega
  have z2 : s + 2 < W.heap.size := by omega
  have z3 : s + 3 < W.heap.size := by omega
  have z4 : s + 4 < W.heap.size := by omega
  have z5 : s + 5 < W.heap.size := by omega
  simp only [List.length_cons, List.length_nil, Nat.zero_add, Nat.reduceAdd] at hp hpc
  have hC := clone_two [x, y] g 0 c W (by simp) (by simp) HRD.out
  simp only [List.length_cons, List.length_nil, Nat.zero_add, Nat.reduceAdd] at hC
  have HC := Lib.hid hC
  clear hC hrd hpo
  cases f with
  | false =>
    go_enter Try.func53, Try.ntmps53
    go_wp2_with fail
    refine HC.out.mono ?_
    rintro e w5 ⟨⟨A5, n5, c5, rfl⟩, hb5⟩
    obtain ⟨hc5, hf5⟩ := bcell hb5
    have HB5 := Lib.hid hb5
    clear hb5 HC
    go_wp2
    exact bodyPost_ret (results_none rfl _ _ _) rfl ⟨rfl, (((HS.out.on HB5.out).setBv A5 n5 c5).setL T).setF true⟩
  | true =>
    have hg2 : T < l := hg rfl
    have hg3 : decide (l ≤ T) = false := decide_eq_false (by omega)
    go_enter Try.func53, Try.ntmps53
    go_wp2_with fail
    refine HC.out.mono ?_
    rintro e w5 ⟨⟨A5, n5, c5, rfl⟩, hb5⟩
    obtain ⟨hc5, hf5⟩ := bcell hb5
    have HB5 := Lib.hid hb5
    clear hb5 HC
    go_wp2
    exact bodyPost_ret (results_none rfl _ _ _) rfl ⟨rfl, (((HS.out.on HB5.out).setBv A5 n5 c5).setL T).setF true⟩
end Go.Proofs.Ytljhocdbfbjpiaa
