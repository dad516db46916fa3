/-
  The sections that need help, at the example: both.
-/
import Derived.Test.YtljhocdbfbjpiaaRescA
namespace Go.Proofs.Ytljhocdbfbjpiaa
open Go.RowKit

/-- Two sections in memory. -/
structure Secs (w : World) (b : Nat) : Prop where
  a0 : w.cell? ⟨b, 0, none⟩ = some (.int .i64 1)
  a1 : w.cell? ⟨b, 1, none⟩ = some (.int .i64 3)
  a2 : w.cell? ⟨b, 2, none⟩ = some (.int .i64 10)
  b0 : w.cell? ⟨b, 3, none⟩ = some (.int .i64 2)
  b1 : w.cell? ⟨b, 4, none⟩ = some (.int .i64 1)
  b2 : w.cell? ⟨b, 5, none⟩ = some (.int .i64 15)
theorem Secs.on {w w' : World} {b : Nat} (h : Secs w b) (hb : b < w.heap.size) (hx : Below w.heap.size w w') : Secs w' b :=
  ⟨(hx.cell (p := ⟨b, 0, none⟩) hb).trans h.a0, (hx.cell (p := ⟨b, 1, none⟩) hb).trans h.a1, (hx.cell (p := ⟨b, 2, none⟩) hb).trans h.a2, (hx.cell (p := ⟨b, 3, none⟩) hb).trans h.b0, (hx.cell (p := ⟨b, 4, none⟩) hb).trans h.b1, (hx.cell (p := ⟨b, 5, none⟩) hb).trans h.b2⟩
def secL (k : Nat) : List Value := if k = 0 then [] else if k = 1 then [.int .i64 1, .int .i64 3, .int .i64 10] else [.int .i64 1, .int .i64 3, .int .i64 10, .int .i64 2, .int .i64 1, .int .i64 15]
theorem sec_info : (Try.prog.info? 73).map (fun i => (i.zero, i.size, i.bytes)) = some (some (.agg #[.int .i64 0, .int .i64 0, .int .i64 0]), 3, 24) := by kernel_rfl

set_option maxRecDepth 20000 in
set_option maxHeartbeats 4000000 in
theorem helpless_any (b : Nat) (w : World) (hM : Secs w b) (hb : b < w.heap.size) :
    Calls Try.prog 50 #[.slice (some ⟨b, 0, none⟩) 2 2] w fun e w' => (∃ g c, e = .returned (.slice (some ⟨g, 0, none⟩) 2 c) ∧ w.heap.size ≤ g ∧ g < w'.heap.size ∧ Secs w' g) ∧ Below w.heap.size w w' := by
  obtain ⟨i0, hi0, hz0, hz1, hz2⟩ := info_parts sec_info
  have HI := Lib.hid (And.intro hi0 (And.intro hz0 (And.intro hz1 hz2)))
  have HM := Lib.hid hM
  clear hi0 hz0 hz1 hz2 hM
  go_enter Try.func50, Try.ntmps50
  go_wp2
  go_loopw [3, 8] (fun i3 i wr => ∃ k : Nat, k ≤ 2 ∧ i = .int .i64 k ∧ (∃ A c, i3 = .slice A k c ∧ wr.ownsRow w.heap.size 73 3 (.slice A k c) k (secL k)) ∧ Below w.heap.size w wr) (fun _ i _ => 2 - (intOf i).toNat)
  case atStart => exact ⟨0, by omega, rfl, ⟨none, 0, rfl, World.ownsRow_nil _ _ _ _⟩, Below.refl _ _⟩
  case round =>
    obtain ⟨k, hk, rfl, ⟨A, c, rfl, hown⟩, hbe⟩ := hrel
    obtain ⟨m0, m1, m2, m3, m4, m5⟩ := HM.out.on hb hbe
    have hz := hbe.size
    have HOWN := Lib.hid hown
    have HBE := Lib.hid hbe
    clear hown hbe
    obtain rfl | rfl | rfl : k = 0 ∨ k = 1 ∨ k = 2 := by omega
    · go_wp2_with (first
        | (at_builtin; refine wpList_append_lies _ rfl (.tmp 15) (.tmp 17) 74 rfl w.heap.size 73 i0 _ 3 24 Try.underlying74 HI.out.1 HI.out.2.1 HI.out.2.2.1 HI.out.2.2.2 rfl (by omega) (.slice A 0 c) 0 (secL 0) rfl ((HOWN.out.alloc _).alloc _) ⟨wr.heap.size + 1, 0, none⟩ 1 1 [.int .i64 1, .int .i64 3, .int .i64 10] rfl rfl (by have h := heap_alloc_new (wr.alloc (.cells #[.int .i64 1, .int .i64 3, .int .i64 10] 73)) (.cells #[.int .i64 1, .int .i64 3, .int .i64 10] 73); rw [World.size_alloc] at h; exact World.news_of_block h) (by simp [Value.oneCell']) (by omega) (by simp [maxLen]) (by omega) (by simp; omega) _ rfl ?_; intro g cap w2 hown2 hgrow hat hlt)
        | fail)
      have hb2 : Below w.heap.size w w2 := ((HBE.out.alloc hz _).alloc (by simp; omega) _).grown hgrow (by simp; omega) (fun j hj => (HOWN.out.lt j hj).1)
      go_roundw
      case rel => exact ⟨1, by omega, by go_num, ⟨_, _, rfl, hown2⟩, hb2⟩
      case measure => simp [intOf]
    · go_wp2_with (first
        | (at_builtin; refine wpList_append_lies _ rfl (.tmp 15) (.tmp 17) 74 rfl w.heap.size 73 i0 _ 3 24 Try.underlying74 HI.out.1 HI.out.2.1 HI.out.2.2.1 HI.out.2.2.2 rfl (by omega) (.slice A 1 c) 1 (secL 1) rfl ((HOWN.out.alloc _).alloc _) ⟨wr.heap.size + 1, 0, none⟩ 1 1 [.int .i64 2, .int .i64 1, .int .i64 15] rfl rfl (by have h := heap_alloc_new (wr.alloc (.cells #[.int .i64 2, .int .i64 1, .int .i64 15] 73)) (.cells #[.int .i64 2, .int .i64 1, .int .i64 15] 73); rw [World.size_alloc] at h; exact World.news_of_block h) (by simp [Value.oneCell']) (by omega) (by simp [maxLen]) (by omega) (by simp; omega) _ rfl ?_; intro g cap w2 hown2 hgrow hat hlt)
        | fail)
      have hb2 : Below w.heap.size w w2 := ((HBE.out.alloc hz _).alloc (by simp; omega) _).grown hgrow (by simp; omega) (fun j hj => (HOWN.out.lt j hj).1)
      go_roundw
      case rel => exact ⟨2, by omega, by go_num, ⟨_, _, rfl, hown2⟩, hb2⟩
      case measure => simp [intOf]
    · go_wp2
      go_ret
      obtain ⟨g, cap, hv, h1, h2⟩ := HOWN.out.form (by omega)
      injection hv with hv _ hcc
      subst hv hcc
      have hc := HOWN.out.cells (g := g) rfl
      have cc : ∀ j u, (secL 2)[j]? = some u → wr.cell? ⟨g, j, none⟩ = some u := fun j u hu => by
        have := hc j u hu
        rw [Go.WideShapes.add_plain, Nat.zero_add] at this
        exact this
      exact ⟨⟨g, c, rfl, h1, h2, ⟨cc 0 _ rfl, cc 1 _ rfl, cc 2 _ rfl, cc 3 _ rfl, cc 4 _ rfl, cc 5 _ rfl⟩⟩, HBE.out⟩
end Go.Proofs.Ytljhocdbfbjpiaa
