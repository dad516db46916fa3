/-
  The walk of Seat of the queues, of the reference.
-/
import Derived.Test.YthabkfmbdkgghaaQueueWalkC
namespace Go.Proofs.Ythabkfmbdkgghaa
open Go.RowKit

theorem rseat_bad (gs : List Int) (s k : Int) (A : Option Addr) (c : Nat) (w : World) (hk : k < 1 ∨ 16 < k) :
    Calls Try.prog 15 #[qv A gs.length c s, .int .i64 k] w fun e w' => e = .returned (.tuple #[qv none 0 0 0, .int .i64 0, .int .i64 2]) ∧ Below w.heap.size w w' := by
  rcases hk with hk | hk
  all_goals
    go_enter Try.func15, Try.ntmps15
    go_wp2
    go_returns
    exact ⟨rfl, by go_grown⟩

set_option maxHeartbeats 1000000 in
theorem rseat_big (x : Int) (r : List Int) (s k : Int) (A : Option Addr) (c : Nat) (w : World) (hk : 1 ≤ k) (hk' : k ≤ 16) (hx' : x ≤ 16) (hx : k < x) (hl : (x :: r).length ≤ 300) (hR : Rd w A (x :: r)) :
    Calls Try.prog 15 #[qv A (x :: r).length c s, .int .i64 k] w (SeatPost w (x :: r) s k) := by
  obtain ⟨gs, hgs⟩ : ∃ gs, gs = x :: r := ⟨_, rfl⟩
  have hlen : gs.length = r.length + 1 := by rw [hgs]; rfl
  have hfin : Que.seat gs s k = ((x - k) :: r, s, k) := by rw [hgs]; simp [Que.seat, hx]
  rw [← hgs] at hl hR ⊢
  have HG := Lib.hid hgs
  have HF := Lib.hid hfin
  have HR := Lib.hid hR
  have HL := Lib.hid hlen
  have hp : 0 < gs.length := by omega
  clear hgs hfin hR hlen
  have q1 : IntKind.i64.wrap (x - k) = x - k := IntWalk.i64_in _ (by omega)
  go_enter Try.func15, Try.ntmps15
  go_wp2_with fail
  refine (own_any gs s A c _ hl (HR.out.below ?_)).mono ?_
  · go_grown
  rintro e w1 ⟨A1, c1, rfl, hown, hb1, hcap, -⟩
  obtain ⟨hc1, hf1⟩ := bcell hb1
  have hz1 := hb1.size
  simp at hz1
  have k1 : w.heap.size < w1.heap.size := by omega
  have k2 : w.heap.size + 1 < w1.heap.size := by omega
  rw [HG.out] at hown
  simp at hown
  obtain ⟨b, off, rfl, h0, h1, h2, h3⟩ := hown (by simp)
  have c0 := h2 0 (by simp)
  have f0 := h3 0
  simp at c0 f0
  have hne1 : w1.heap.size ≠ b := by omega
  have hne2 : b ≠ w1.heap.size := by omega
  have hB : w.heap.size + 1 + 1 ≤ b := by simpa using h0
  have hne3 : b ≠ w.heap.size + 1 := by omega
  have hne4 : w.heap.size + 1 ≠ b := by omega
  have hne5 : b ≠ w.heap.size := by omega
  have hne6 : w.heap.size ≠ b := by omega
  have HO := Lib.hid hown
  have H2 := Lib.hid h2
  have H3 := Lib.hid h3
  have HC := Lib.hid hcap
  clear hown h2 h3 h0 hcap
  go_wp2
  go_region
  go_wp2
  have hb2 : Below w.heap.size w w1 := thru (by go_grown) hb1 (by first | omega | (simp; omega))
  refine bodyPost_ret (v := .tuple #[qv (some ⟨b, off, none⟩) gs.length c1 s, .int .i64 k, .int .i64 0]) (by simp [results, Try.results15, go_sem, hc1, k2]) rfl ?_
  refine ⟨some ⟨b, off, none⟩, c1, by rw [HF.out, HL.out]; rfl, ?_, ?_⟩
  · rw [HF.out]
    exact (((((HO.out.put).set (show w.heap.size + 1 ≠ b from hne4) _).set (show w.heap.size + 1 ≠ b from hne4) _).below (((Below.refl _ _).alloc (Nat.le_refl _) _).drew)).mono (by first | omega | (simp; omega)))
  · exact ((((hb2.setCell (by first | omega | (simp; omega)) _).setCell (by simp) _).setCell (by simp) _).alloc (by first | omega | (simp; omega)) _).drew

/-- The loop of the reference's Seat: what the slot and the world hold. -/
def RBoards (B : Nat) (w1 : World) (gs : List Int) (s k : Int) (l : Value) (w : World) : Prop :=
  ∃ (xs : List Int) (y : Int) (A : Option Addr) (c : Nat), w = w1.alloc (.cells #[.slice A xs.length c, .int .i64 s] 24) ∧ xs.length ≤ c ∧ l = .int .i64 y ∧ Que.board xs y = Que.board gs k ∧ Own B w1 A xs ∧ 0 ≤ y ∧ y ≤ 16 ∧ ∀ g ∈ xs, 1 ≤ g ∧ g ≤ 16
/-- The length of the groups that lie in block g. -/
def lenAt (g : Nat) (w : World) : Nat := match w.cell? ⟨g, 0, none⟩ with | some v => lenOf v | none => 0
theorem lenAt_new (w : World) (A : Option Addr) (n c : Nat) (s : Int) : lenAt w.heap.size (w.alloc (.cells #[.slice A n c, .int .i64 s] 24)) = n := by simp [lenAt, lenOf]

set_option maxHeartbeats 2000000 in
theorem rseat_board (gs : List Int) (s k : Int) (A : Option Addr) (c : Nat) (w : World) (hk : 1 ≤ k) (hk' : k ≤ 16) (hs : 0 ≤ s) (hs' : s ≤ 10000) (hgs : ∀ g ∈ gs, 1 ≤ g ∧ g ≤ 16) (hx : gs[0]?.getD 0 ≤ k) (hl : gs.length ≤ 300) (hR : Rd w A gs) :
    Calls Try.prog 15 #[qv A gs.length c s, .int .i64 k] w (SeatPost w gs s k) := by
  have hfin : Que.seat gs s k = ((Que.board gs k).1, s - min (Que.board gs k).2 s, k - (Que.board gs k).2 + min (Que.board gs k).2 s) := by
    cases gs with
    | nil => simp [Que.seat, Que.board]
    | cons g r => simp at hx; simp [Que.seat]; omega
  have HF := Lib.hid hfin
  have HR := Lib.hid hR
  have HG := Lib.hid hgs
  clear hfin hR hgs
  go_enter Try.func15, Try.ntmps15
  go_wp2_with fail
  refine (own_any gs s A c _ hl (HR.out.below ?_)).mono ?_
  · go_grown
  rintro e w1 ⟨A1, c1, rfl, hown, hb1, hcap, -⟩
  obtain ⟨hc1, hf1⟩ := bcell hb1
  have hz1 := hb1.size
  simp at hz1
  have k1 : w.heap.size < w1.heap.size := by omega
  have k2 : w.heap.size + 1 < w1.heap.size := by omega
  simp at hown
  have HO := Lib.hid hown
  have HCAP := Lib.hid hcap
  have hb2 : Below w.heap.size w w1 := thru (by go_grown) hb1 (by first | omega | (simp; omega))
  have hhead : 0 < gs.length → ∃ b off, A1 = some ⟨b, off, none⟩ ∧ b < w1.heap.size ∧ Hid (gs[0]?.getD 0 ≤ k ∧ w1.cell? ⟨b, off, none⟩ = some (.int .i64 (gs[0]?.getD 0))) := by
    intro hp
    obtain ⟨b, off, e, h0, h1, h2, h3⟩ := hown hp
    exact ⟨b, off, e, h1, hx, by simpa using h2 0 hp⟩
  clear hown hx hcap
  by_cases hp : 0 < gs.length
  focus
    obtain ⟨b, off, rfl, h0, h1⟩ := hhead hp
    obtain ⟨h1, h2⟩ := h1.out
    clear hhead
    generalize gs[0]?.getD 0 = x at *
    go_wp2
  rotate_left
  focus
    clear hhead
    go_wp2
  all_goals
    go_loopw [8] (fun l wr => RBoards (w.heap.size + 1 + 1) w1 gs s k l wr) (fun _ wr => lenAt w1.heap.size wr)
    case atStart => exact ⟨gs, k, _, _, rfl, HCAP.out, rfl, rfl, HO.out, by omega, by omega, HG.out⟩
    case round =>
      obtain ⟨xs, y, A', c', rfl, hcl, rfl, hbd, hown', hy0, hy1, hxs⟩ := hrel
      have HB := Lib.hid hbd
      have HW := Lib.hid hown'
      have HXS := Lib.hid hxs
      clear hbd hxs
      cases xs with
      | nil =>
        clear hown'
        go_wp2
        all_goals
          refine bodyPost_ret (by simp [results, Try.results15, go_sem, hc1, k2]; rfl) rfl ?_
          refine seat_close (xs := []) (y := y) HF.out HB.out.symm (by omega) (by omega) (Own.nil _ _ _) ?_
          exact ((hb2.setCell (by first | omega | (simp; done) | (simp; omega)) _).setCell (by first | omega | (simp; done) | (simp; omega)) _).alloc (by first | omega | (simp; omega)) _
      | cons x1 r =>
        obtain ⟨b', off', rfl, h0', h1', h2', h3'⟩ := hown' (by simp)
        have c0 := h2' 0 (by simp)
        simp at c0
        have H2 := Lib.hid h2'
        have H3 := Lib.hid h3'
        have n1 : b' ≠ w1.heap.size := by omega
        clear hown' h2' h3'
        by_cases hxy : x1 ≤ y
        · have hx1 := HXS.out x1 (by simp)
          obtain ⟨hx2, hx3⟩ := hx1
          simp at hcl
          by_cases hc1' : c' = 1
          · subst hc1'
            obtain rfl : r = [] := List.eq_nil_of_length_eq_zero (by omega)
            go_wp2
            go_roundw
            case rel => exact ⟨[], y - x1, _, _, rfl, by simp, rfl, (board_take hxy).trans HB.out, Own.nil _ _ _, by omega, by omega, by simp⟩
            case measure => simp [lenAt, lenOf]
          · have hlc : r.length + 1 ≤ c' := by omega
            have hc2 : 2 ≤ c' := by omega
            go_wp2
            go_roundw
            case rel => exact ⟨r, y - x1, _, _, rfl, by omega, rfl, (board_take hxy).trans HB.out, HW.out.cut, by omega, by omega, fun g hg => HXS.out g (by simp; right; exact hg)⟩
            case measure => simp [lenAt, lenOf]
        · have hbb : Hid (Que.board gs k = (x1 :: r, y)) := HB.out.symm.trans (board_stop hxy)
          go_wp2
          all_goals
            refine bodyPost_ret (by simp [results, Try.results15, go_sem, hc1, k2]; rfl) rfl ?_
            refine seat_close (xs := x1 :: r) (y := y) HF.out hbb.out (by omega) (by omega) ((((HW.out.set (show w.heap.size + 1 ≠ b' by omega) _).set (show w.heap.size + 1 ≠ b' by omega) _).below ((Below.refl _ _).alloc (Nat.le_refl _) _)).mono (by omega)) ?_
            exact ((hb2.setCell (by first | omega | (simp; done) | (simp; omega)) _).setCell (by first | omega | (simp; done) | (simp; omega)) _).alloc (by first | omega | (simp; omega)) _
end Go.Proofs.Ythabkfmbdkgghaa
