/-
  The walk of Seat of the queues, of the program.
-/
import Derived.Test.YthabkfmbdkgghaaQueueWalkB
namespace Go.Proofs.Ythabkfmbdkgghaa
open Go.RowKit

/-- What Seat leaves: the queue, the persons, no error; the groups in new memory. -/
def SeatPost (w : World) (gs : List Int) (s k : Int) (e : Ending) (w' : World) : Prop :=
  ∃ (A : Option Addr) (c : Nat), e = .returned (.tuple #[qv A (Que.seat gs s k).1.length c (Que.seat gs s k).2.1, .int .i64 (Que.seat gs s k).2.2, .int .i64 0]) ∧ Own w.heap.size w' A (Que.seat gs s k).1 ∧ Below w.heap.size w w'

theorem seat_bad (gs : List Int) (s k : Int) (A : Option Addr) (c : Nat) (w : World) (hk : k < 1 ∨ 16 < k) :
    Calls Try.prog 14 #[qv A gs.length c s, .int .i64 k] w fun e w' => e = .returned (.tuple #[qv none 0 0 0, .int .i64 0, .int .i64 2]) ∧ Below w.heap.size w w' := by
  rcases hk with hk | hk
  all_goals
    go_enter Try.func14, Try.ntmps14
    go_wp2
    go_returns
    exact ⟨rfl, by go_grown⟩

theorem seat_big (x : Int) (r : List Int) (s k : Int) (A : Option Addr) (c : Nat) (w : World) (hk : 1 ≤ k) (hk' : k ≤ 16) (hx' : x ≤ 16) (hx : k < x) (hl : (x :: r).length ≤ 300) (hR : Rd w A (x :: r)) :
    Calls Try.prog 14 #[qv A (x :: r).length c s, .int .i64 k] w (SeatPost w (x :: r) s k) := by
  obtain ⟨gs, hgs⟩ : ∃ gs, gs = x :: r := ⟨_, rfl⟩
  have hlen : gs.length = r.length + 1 := by rw [hgs]; rfl
  have hfin : Que.seat gs s k = ((x - k) :: r, s, k) := by rw [hgs]; simp [Que.seat, hx]
  rw [← hgs] at hl hR ⊢
  have HG := Lib.hid hgs
  have HF := Lib.hid hfin
  have HR := Lib.hid hR
  have HL := Lib.hid hlen
  have hp : 0 < gs.length := by omega
  clear hgs hfin hR hlen
  go_enter Try.func14, Try.ntmps14
  go_wp2_with fail
  refine (clone_any gs A c _ hl (HR.out.below ?_)).mono ?_
  · go_grown
  rintro e w1 ⟨rfl, hown, hb1, hz1, -⟩
  obtain ⟨hc1, hf1⟩ := bcell hb1
  simp at hz1
  have k1 : w.heap.size < w1.heap.size := by omega
  have k2 : w.heap.size + 1 < w1.heap.size := by omega
  have k3 : w.heap.size + 1 + 1 < w1.heap.size := by omega
  rw [HG.out] at hown
  simp at hown
  obtain ⟨b, off, e, h0, h1, h2, h3⟩ := hown (by simp)
  injection e with e
  injection e with e1 e2
  subst e1 e2
  have c0 := h2 0 (by simp)
  have f0 := h3 0
  simp at c0 f0
  have HO := Lib.hid hown
  have H2 := Lib.hid h2
  have H3 := Lib.hid h3
  clear hown h2 h3 h0 h1
  go_wp2
  refine bodyPost_ret (v := .tuple #[qv (some ⟨w.heap.size + 1 + 1, 0, none⟩) gs.length gs.length s, .int .i64 k, .int .i64 0]) (by simp [results, Try.results14, go_sem, hc1]) rfl ?_
  refine ⟨some ⟨w.heap.size + 1 + 1, 0, none⟩, gs.length, by rw [HF.out, HL.out]; rfl, ?_, ?_⟩
  · rw [HF.out]
    exact (((HO.out.put).set (by simp) _).set (by simp) _).mono (by first | omega | (simp; omega))
  · have hb2 : Below w.heap.size w w1 := thru (by go_grown) hb1 (by first | omega | (simp; omega))
    exact ((hb2.setCell (by first | omega | (simp; omega)) _).setCell (by simp) _).setCell (by simp) _

theorem board_take {x l : Int} {r : List Int} (h : x ≤ l) : Que.board r (l - x) = Que.board (x :: r) l := by rw [Que.board.eq_2, if_pos h]
theorem board_stop {x l : Int} {r : List Int} (h : ¬ x ≤ l) : Que.board (x :: r) l = (x :: r, l) := by rw [Que.board.eq_2, if_neg h]

/-- The loop of Seat: what the slots hold. -/
def Boards (B : Nat) (w : World) (gs : List Int) (k : Int) (v l : Value) : Prop :=
  ∃ (xs : List Int) (y : Int) (A : Option Addr), v = .slice A xs.length xs.length ∧ l = .int .i64 y ∧ Que.board xs y = Que.board gs k ∧ Own B w A xs ∧ 0 ≤ y ∧ y ≤ 16 ∧ ∀ g ∈ xs, 1 ≤ g ∧ g ≤ 16

theorem seat_close {w W : World} {gs xs : List Int} {s k y a b : Int} {A : Option Addr} {c : Nat} (hf : Que.seat gs s k = ((Que.board gs k).1, s - min (Que.board gs k).2 s, k - (Que.board gs k).2 + min (Que.board gs k).2 s))
    (hbb : Que.board gs k = (xs, y)) (ha : a = s - min y s) (hb : b = k - y + min y s) (hO : Own w.heap.size W A xs) (hB : Below w.heap.size w W) :
    SeatPost w gs s k (.returned (.tuple #[.agg #[.slice A xs.length c, .int .i64 a], .int .i64 b, .int .i64 0])) W := by
  have e : Que.seat gs s k = (xs, a, b) := by rw [hf, hbb, ha, hb]
  refine ⟨A, c, ?_, ?_, hB⟩
  · rw [e]
  · rw [e]; exact hO

set_option maxHeartbeats 2000000 in
theorem seat_board (gs : List Int) (s k : Int) (A : Option Addr) (c : Nat) (w : World) (hk : 1 ≤ k) (hk' : k ≤ 16) (hs : 0 ≤ s) (hs' : s ≤ 10000) (hgs : ∀ g ∈ gs, 1 ≤ g ∧ g ≤ 16) (hx : gs[0]?.getD 0 ≤ k) (hl : gs.length ≤ 300) (hR : Rd w A gs) :
    Calls Try.prog 14 #[qv A gs.length c s, .int .i64 k] w (SeatPost w gs s k) := by
  have hfin : Que.seat gs s k = ((Que.board gs k).1, s - min (Que.board gs k).2 s, k - (Que.board gs k).2 + min (Que.board gs k).2 s) := by
    cases gs with
    | nil => simp [Que.seat, Que.board]
    | cons g r => simp at hx; simp [Que.seat]; omega
  have HF := Lib.hid hfin
  have HR := Lib.hid hR
  have HG := Lib.hid hgs
  clear hfin hR hgs
  have hx1 : 0 < gs.length → gs[0]?.getD 0 ≤ k := fun _ => hx
  go_enter Try.func14, Try.ntmps14
  go_wp2_with fail
  refine (clone_any gs A c _ hl (HR.out.below ?_)).mono ?_
  · go_grown
  rintro e w1 ⟨rfl, hown, hb1, hz1, -⟩
  obtain ⟨hc1, hf1⟩ := bcell hb1
  simp at hz1
  have k1 : w.heap.size < w1.heap.size := by omega
  have k2 : w.heap.size + 1 < w1.heap.size := by omega
  have k3 : w.heap.size + 1 + 1 < w1.heap.size := by omega
  simp at hown
  have HO := Lib.hid hown
  have hhead : 0 < gs.length → Hid (gs[0]?.getD 0 ≤ k ∧ w1.cell? ⟨w.heap.size + 1 + 1, 0, none⟩ = some (.int .i64 (gs[0]?.getD 0))) := by
    intro hp
    obtain ⟨b, off, e, h0, h1, h2, h3⟩ := hown hp
    injection e with e
    injection e with e1 e2
    subst e1 e2
    exact ⟨hx, by simpa using h2 0 hp⟩
  clear hown hx1 hx
  have hb2 : Below w.heap.size w w1 := thru (by go_grown) hb1 (by first | omega | (simp; omega))
  by_cases hp : 0 < gs.length
  focus
    obtain ⟨h1, h2⟩ := (hhead hp).out
    clear hhead
    generalize gs[0]?.getD 0 = x at *
    go_wp2
  rotate_left
  focus
    clear hhead
    go_wp2
  all_goals
    go_loop [7, 8] (fun v l => Boards (w.heap.size + 1 + 1) w1 gs k v l) (fun v _ => lenOf v)
    case atStart => exact ⟨gs, k, _, rfl, rfl, rfl, HO.out, by omega, by omega, HG.out⟩
    case round =>
      obtain ⟨xs, y, A', rfl, rfl, hbd, hown', hy0, hy1, hxs⟩ := hrel
      have HB := Lib.hid hbd
      have HW := Lib.hid hown'
      have HXS := Lib.hid hxs
      clear hbd hxs
      cases xs with
      | nil =>
        clear hown'
        go_wp2
        all_goals
          refine bodyPost_ret (by simp [results, Try.results14, go_sem, hc1]; rfl) rfl ?_
          refine seat_close (xs := []) (y := y) HF.out HB.out.symm (by omega) (by omega) (Own.nil _ _ _) ?_
          exact (hb2.setCell (by first | omega | (simp; done) | (simp; omega)) _).setCell (by first | omega | (simp; done) | (simp; omega)) _
      | cons x1 r =>
        obtain ⟨b, off, rfl, h0, h1, h2, h3⟩ := hown' (by simp)
        have c0 := h2 0 (by simp)
        simp at c0
        have H2 := Lib.hid h2
        have H3 := Lib.hid h3
        clear hown' h2 h3
        by_cases hxy : x1 ≤ y
        · have hx1 := HXS.out x1 (by simp)
          obtain ⟨hx2, hx3⟩ := hx1
          cases r with
          | nil =>
            go_wp2
            go_round
            case rel => exact ⟨[], y - x1, _, rfl, rfl, (board_take hxy).trans HB.out, Own.nil _ _ _, by omega, by omega, by simp⟩
            case measure => simp [lenOf]
          | cons x2 r2 =>
            go_wp2
            go_round
            case rel => exact ⟨x2 :: r2, y - x1, _, rfl, rfl, (board_take hxy).trans HB.out, HW.out.cut, by omega, by omega, fun g hg => HXS.out g (by simp at hg ⊢; right; exact hg)⟩
            case measure => simp [lenOf]
        · have hbb : Hid (Que.board gs k = (x1 :: r, y)) := HB.out.symm.trans (board_stop hxy)
          go_wp2
          all_goals
            refine bodyPost_ret (by simp [results, Try.results14, go_sem, hc1]; rfl) rfl ?_
            refine seat_close (xs := x1 :: r) (y := y) HF.out hbb.out (by omega) (by omega) (((HW.out.set (show w.heap.size + 1 ≠ b by omega) _).set (show w.heap.size + 1 ≠ b by omega) _).mono (by omega)) ?_
            exact (hb2.setCell (by first | omega | (simp; done) | (simp; omega)) _).setCell (by first | omega | (simp; done) | (simp; omega)) _
end Go.Proofs.Ythabkfmbdkgghaa
