/-
  The search for the shifts of the example: it ends at 20.
-/
import Derived.Test.YtljhocdbfbjpiaaRouteF
namespace Go.Proofs.Ytljhocdbfbjpiaa
open Go.RowKit

theorem eE_a1 : eE ⟨1, 1, 0, 10⟩ Sh.zero 1 = 10 := by decide
theorem eE_a2 : eE ⟨1, 1, 0, 10⟩ Sh.zero 2 = 0 := by decide
theorem eE_b1 : eE ⟨2, 1, 0, 10⟩ Sh.zero 1 = 0 := by decide
theorem eE_b2 : eE ⟨2, 1, 0, 10⟩ Sh.zero 2 = 10 := by decide
theorem eE_z (g : Int) : eE Sh.zero Sh.zero g = 0 := by simp [eE, eA, Sh.zero]
def aB0 (j : Nat) : Sh := if j < 3 then Sh.zero else ⟨1, 1, 0, 10⟩
def aB1 (j : Nat) : Sh := if j < 3 then Sh.zero else if j = 3 then ⟨1, 2, 10, 30⟩ else ⟨2, 2, 0, 20⟩
def aE (j : Nat) : Int := if j < 3 then 31 else if j = 3 then 30 else 20
def bestA : Sh := ⟨1, 1, 0, 10⟩
def bestB : Sh := ⟨2, 2, 0, 20⟩
theorem k_two {k : Nat} (h : k < 2) : k = 0 ∨ k = 1 := by omega

theorem place_a (L : SL) (B : Nat) (w W : World) (hS : SP L B w W ⟨⟨1, 1, 0, 10⟩, Sh.zero, Sh.zero, Sh.zero, 31⟩) :
    Calls Try.prog 49 #[.pointer (some ⟨L.S, 0, none⟩), .int .i64 1, .int .i64 0, .int .i64 10] W (PlacePost L B w W ⟨⟨1, 1, 0, 10⟩, Sh.zero, bestA, bestB, 20⟩) := by
  refine place_level L B w W ⟨1, 1, 0, 10⟩ Sh.zero aB0 aB1 aE 1 0 10 (by omega) (by omega) (by decide) (fun _ => rfl) (fun h => absurd rfl h) (fun h => absurd h (by decide)) (fun _ => ⟨rfl, fun k hk => ?_⟩) hS
  rcases k_two hk with rfl | rfl
  · refine ⟨fun h => absurd h (by decide), fun _ => ⟨by decide, fun W1 h1 => ?_⟩⟩
    exact place_leaf L B w W1 ⟨⟨1, 1, 0, 10⟩, ⟨1, 2, 10, 30⟩, Sh.zero, Sh.zero, 31⟩ 10 30 h1 (by decide)
  · refine ⟨fun h => absurd h (by decide), fun _ => ⟨by decide, fun W1 h1 => ?_⟩⟩
    exact place_leaf L B w W1 ⟨⟨1, 1, 0, 10⟩, ⟨2, 2, 0, 20⟩, ⟨1, 1, 0, 10⟩, ⟨1, 2, 10, 30⟩, 30⟩ 0 20 h1 (by decide)
theorem place_b (L : SL) (B : Nat) (w W : World) (hS : SP L B w W ⟨⟨2, 1, 0, 10⟩, Sh.zero, bestA, bestB, 20⟩) :
    Calls Try.prog 49 #[.pointer (some ⟨L.S, 0, none⟩), .int .i64 1, .int .i64 0, .int .i64 10] W (PlacePost L B w W ⟨⟨2, 1, 0, 10⟩, Sh.zero, bestA, bestB, 20⟩) := by
  refine place_level L B w W ⟨2, 1, 0, 10⟩ Sh.zero (fun _ => bestA) (fun _ => bestB) (fun _ => 20) 1 0 10 (by omega) (by omega) (by decide) (fun _ => rfl) (fun h => absurd rfl h) (fun h => absurd h (by decide)) (fun _ => ⟨rfl, fun k hk => ?_⟩) hS
  rcases k_two hk with rfl | rfl
  · refine ⟨fun h => absurd h (by decide), fun _ => ⟨by decide, fun W1 h1 => ?_⟩⟩
    exact place_out L B w W1 ⟨⟨2, 1, 0, 10⟩, ⟨1, 2, 0, 20⟩, bestA, bestB, 20⟩ 0 0 20 h1 (by decide)
  · refine ⟨fun h => absurd h (by decide), fun _ => ⟨by decide, fun W1 h1 => ?_⟩⟩
    exact place_out L B w W1 ⟨⟨2, 1, 0, 10⟩, ⟨2, 2, 10, 30⟩, bestA, bestB, 20⟩ 0 10 30 h1 (by decide)
def cB0 (j : Nat) : Sh := if j = 0 then Sh.zero else bestA
def cB1 (j : Nat) : Sh := if j = 0 then Sh.zero else bestB
def cE (j : Nat) : Int := if j = 0 then 31 else 20
theorem place_all (L : SL) (B : Nat) (w W : World) (hS : SP L B w W ⟨Sh.zero, Sh.zero, Sh.zero, Sh.zero, 31⟩) :
    Calls Try.prog 49 #[.pointer (some ⟨L.S, 0, none⟩), .int .i64 2, .int .i64 0, .int .i64 0] W (PlacePost L B w W ⟨Sh.zero, Sh.zero, bestA, bestB, 20⟩) := by
  refine place_level L B w W Sh.zero Sh.zero cB0 cB1 cE 2 0 0 (by omega) (by omega) (by decide) (fun h => absurd rfl h) (fun h => absurd rfl h) (fun _ => ⟨rfl, fun k hk => ?_⟩) (fun _ => ⟨rfl, fun k hk => ?_⟩) hS
  · rcases k_two hk with rfl | rfl
    · refine ⟨fun h => absurd h (by decide), fun _ => ⟨by decide, fun W1 h1 => ?_⟩⟩
      exact place_a L B w W1 h1
    · refine ⟨fun h => absurd h (by decide), fun _ => ⟨by decide, fun W1 h1 => ?_⟩⟩
      exact place_b L B w W1 h1
  · rcases k_two hk with rfl | rfl
    · refine ⟨fun h => absurd h (by decide), fun _ => ⟨by decide, fun W1 h1 => ?_⟩⟩
      exact place_out L B w W1 ⟨Sh.zero, ⟨1, 2, 0, 20⟩, bestA, bestB, 20⟩ 1 0 20 h1 (by decide)
    · refine ⟨fun h => absurd h (by decide), fun _ => ⟨by decide, fun W1 h1 => ?_⟩⟩
      exact place_out L B w W1 ⟨Sh.zero, ⟨2, 2, 0, 20⟩, bestA, bestB, 20⟩ 1 0 20 h1 (by decide)
end Go.Proofs.Ytljhocdbfbjpiaa
