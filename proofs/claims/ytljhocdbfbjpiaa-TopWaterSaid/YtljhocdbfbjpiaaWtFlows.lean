/-
  The flows in the pipes: some numbers.
-/
import Derived.Test.YtljhocdbfbjpiaaWtFind
import Derived.StillTailTactics
namespace Go.Proofs.Ytljhocdbfbjpiaa
open Go.RowKit

/-- The variables of Flows: the pipes, the row of flows behind its variable. -/
structure FW (s n : Nat) (A : Option Addr) (c : Nat) (w W : World) : Prop where
  be : Below s w W
  z : s + 3 ≤ W.heap.size
  l : W.cell? ⟨s, 0, none⟩ = some (.slice A n c)
  o : W.cell? ⟨s + 2, 0, none⟩ = some (.slice (some ⟨s + 1, 0, none⟩) n n)
  r : ∃ F : Nat → Int, ∀ i, i < n → W.cell? ⟨s + 1, i, none⟩ = some (.int .i64 (F i))
  f : ∀ i, W.frozen? ⟨s + 1, i, none⟩ = false
theorem FW.below {s n : Nat} {A : Option Addr} {c : Nat} {w W W' : World} (h : FW s n A c w W) (hb : Below W.heap.size W W') : FW s n A c w W' := by
  have hz := h.z
  obtain ⟨F, hF⟩ := h.r
  exact ⟨thru h.be hb (by omega), Nat.le_trans hz hb.size, (hb.cell (p := ⟨s, 0, none⟩) (by show s < _; omega)).trans h.l, (hb.cell (p := ⟨s + 2, 0, none⟩) (by show s + 2 < _; omega)).trans h.o,
    ⟨F, fun i hi => (hb.cell (p := ⟨s + 1, i, none⟩) (by show s + 1 < _; omega)).trans (hF i hi)⟩, fun i => (hb.frozen (p := ⟨s + 1, i, none⟩) (by show s + 1 < _; omega)).trans (h.f i)⟩
theorem FW.set {s n : Nat} {A : Option Addr} {c : Nat} {w W : World} (h : FW s n A c w W) (i : Nat) (x : Int) : FW s n A c w (W.setCell ⟨s + 1, i, none⟩ (.int .i64 x)) := by
  obtain ⟨F, hF⟩ := h.r
  exact ⟨h.be.setCell (p := ⟨s + 1, i, none⟩) (by show s ≤ s + 1; omega) _, by simpa using h.z, (World.cell?_setCell_other _ _ _ _ (by intro e; injection e with e _; omega)).trans h.l, (World.cell?_setCell_other _ _ _ _ (by intro e; injection e with e _; omega)).trans h.o,
    ⟨up F i x, row_set hF i x⟩, fun j => (World.frozen?_setCell _ _ _ _).trans (h.f j)⟩
def FlowPost (s n : Nat) (A : Option Addr) (c : Nat) (w : World) (e : Ending) (W' : World) : Prop := e = .returned (.tuple #[]) ∧ FW s n A c w W'
set_option maxRecDepth 20000 in
set_option maxHeartbeats 4000000 in
theorem addflow_any (s n c : Nat) (f : Nat → Nat → Int) (node flow : Int) (A : Option Addr) (w W : World) (hs : w.heap.size ≤ s) (hR : RI w A 5 n f) (hn : n ≤ 8) (hF : FW s n A c w W) :
    Calls Try.prog 113 #[.int .i64 node, .int .i64 flow, .pointer (some ⟨s, 0, none⟩), .pointer (some ⟨s + 2, 0, none⟩)] W (FlowPost s n A c w) := by
  have hb0 : Below w.heap.size w W := hF.be.mono hs
  have HC := Lib.hid (find_any n c f node A W (hR.below hb0) hn)
  have hl := hF.l
  have HF := Lib.hid hF
  cases hp : pFirst f node n with
  | none =>
    rw [hp] at HC
    have e0 : pI none = -1 := rfl
    rw [e0] at HC
    clear hb0 hR hF hp e0
    go_enter Try.func113, Try.ntmps113
    go_wp2_with fail
    refine HC.out.mono ?_
    rintro e w1 ⟨rfl, hb1⟩
    have HF1 := Lib.hid (HF.out.below hb1)
    clear hb1
    go_wp2
    go_end0
    exact ⟨rfl, HF1.out⟩
  | some i =>
    have hi := (pFirst_spec hp).1
    rw [hp] at HC
    have e0 : pI (some i) = (i : Int) := rfl
    rw [e0] at HC
    have hii : (i : Int) < (n : Int) := by omega
    have hin : (0 : Int) ≤ (i : Int) := by omega
    clear hb0 hR hF hp e0
    go_enter Try.func113, Try.ntmps113
    go_wp2_with fail
    refine HC.out.mono ?_
    rintro e w1 ⟨rfl, hb1⟩
    have HF1 := Lib.hid (HF.out.below hb1)
    have ho := HF1.out.o
    obtain ⟨F, hF⟩ := HF1.out.r
    have hc := hF i hi
    have hfr := HF1.out.f i
    clear hb1 hF hl
    go_wp2
    go_end0
    exact ⟨rfl, HF1.out.set i _⟩
def FlowsPost (n : Nat) (w : World) (e : Ending) (w' : World) : Prop :=
  (∃ (g : Nat) (F : Nat → Int), e = .returned (.slice (some ⟨g, 0, none⟩) n n) ∧ g < w'.heap.size ∧ ∀ i, i < n → w'.cell? ⟨g, i, none⟩ = some (.int .i64 (F i))) ∧ Below w.heap.size w w'
set_option maxRecDepth 20000 in
set_option maxHeartbeats 8000000 in
theorem flows_any (n c d : Nat) (f : Nat → Nat → Int) (ds : List (Int × Int)) (A B : Option Addr) (w : World) (hR : RI w A 5 n f) (hD : RdP w B ds) (hn : n ≤ 8) (hl : ds.length ≤ 1000) :
    Calls Try.prog 102 #[.slice A n c, .slice B ds.length d] w (FlowsPost n w) := by
  have HR := Lib.hid hR
  have HD := Lib.hid hD
  have HN := Lib.hid hn
  have hni : (n : Int) ≤ 8 := by omega
  have hdi : (ds.length : Int) ≤ 1000 := by omega
  have hmk : ∀ W', (Instr.makeSlice 28 (.int .i64 (n : Int)) (.int .i64 (n : Int))).run Try.prog W' = .ok (.slice (some ⟨W'.heap.size, 0, none⟩) n n) (W'.alloc (.cells (madeCells #[.int .i64 0] n) 3)) := fun W' => make_ints n (by omega) W'
  have HST : Hid (FW w.heap.size n A c w (((w.alloc (.cells #[.slice A n c] 36)).alloc (.cells (madeCells #[.int .i64 0] n) 3)).alloc (.cells #[.slice (some ⟨w.heap.size + 1, 0, none⟩) n n] 28))) := Lib.hid (by
    have b1 := Joins.below_alloc1 (w.alloc (.cells #[.slice A n c] 36)) (.cells (madeCells #[.int .i64 0] n) 3)
    have b2 := Joins.below_alloc1 ((w.alloc (.cells #[.slice A n c] 36)).alloc (.cells (madeCells #[.int .i64 0] n) 3)) (.cells #[.slice (some ⟨w.heap.size + 1, 0, none⟩) n n] 28)
    refine ⟨((((Below.refl _ _).alloc (Nat.le_refl _) _).alloc (by simp) _).alloc (by simp; omega) _), by simp, ?_, ?_, ⟨fun _ => 0, fun i hi => ?_⟩, fun i => ?_⟩
    · rw [b2.cell (p := ⟨w.heap.size, 0, none⟩) (by simp; omega), b1.cell (p := ⟨w.heap.size, 0, none⟩) (by simp)]
      simp [go_sem]
    · simp [go_sem]
    · rw [b2.cell (p := ⟨w.heap.size + 1, i, none⟩) (by simp)]
      have h := made_at (.int .i64 0) n 3 (w.alloc (.cells #[.slice A n c] 36)) hi
      simpa using h
    · rw [b2.frozen (p := ⟨w.heap.size + 1, i, none⟩) (by simp)]
      simp [go_sem])
  clear hR hD hn
  go_enter Try.func102, Try.ntmps102
  go_wp2
  go_loopw [16] (fun i wr => ∃ k : Nat, k ≤ ds.length ∧ i = .int .i64 k ∧ Hid (FW w.heap.size n A c w wr)) (fun i _ => ds.length - (intOf i).toNat)
  case atStart => exact ⟨0, Nat.zero_le _, rfl, HST⟩
  case round =>
    clear hmk HST
    obtain ⟨k, hk, rfl, HF⟩ := hrel
    by_cases hlt : k < ds.length
    · have hlti : (k : Int) < (ds.length : Int) := by omega
      obtain ⟨b, off, rfl, hbz, hc⟩ := (HD.out.below (HF.out.be)) (by omega)
      obtain ⟨c0, c1⟩ := hc k hlt
      obtain ⟨x, hx⟩ : ∃ x, x = Fix.px ds k := ⟨_, rfl⟩
      obtain ⟨y, hy⟩ : ∃ x, x = Fix.py ds k := ⟨_, rfl⟩
      rw [← hx] at c0
      rw [← hy] at c1
      have HC := Lib.hid (addflow_any w.heap.size n c f x y A w (wr.alloc (.cells #[.int .i64 x, .int .i64 y] 53)) (Nat.le_refl _) HR.out HN.out (HF.out.below (Joins.below_alloc1 _ _)))
      have HLT := Lib.hid hlt
      clear hc hlt hx hy
      go_wp2_with fail
      refine HC.out.mono ?_
      rintro e w2 ⟨rfl, hf2⟩
      have HF2 := Lib.hid hf2
      clear hf2 c0 c1
      go_wp2
      go_roundw
      case rel => exact ⟨k + 1, HLT.out, by go_num, HF2⟩
      case measure => have := HLT.out; simp [intOf]; omega
    · have hlti : decide ((k : Int) < (ds.length : Int)) = false := decide_eq_false (by omega)
      have hl0 := HF.out.l
      go_wp2
      clear hl0
      go_loopw [9] (fun i wr => ∃ (k : Nat) (z : Int), k ≤ n ∧ i = .int .i64 z ∧ Hid (z = (k : Int) - 1) ∧ Hid (FW w.heap.size n A c w wr)) (fun i _ => (intOf i + 1).toNat)
      case atStart => exact ⟨n, _, Nat.le_refl _, rfl, Lib.hid rfl, HF⟩
      case round =>
        clear HF
        rename World => wx
        obtain ⟨m, z, hm, rfl, HZ, HF⟩ := hrel
        rcases Nat.eq_zero_or_pos m with h0 | h0
        · obtain rfl : z = -1 := by have := HZ.out; omega
          have ho := HF.out.o
          have HRR := Lib.hid HF.out.r
          have HRZ := Lib.hid HF.out.z
          have HB := Lib.hid HF.out.be
          go_wp2
          go_ret
          obtain ⟨F, hF⟩ := HRR.out
          exact ⟨⟨w.heap.size + 1, F, rfl, by have := HRZ.out; omega, hF⟩, HB.out⟩
        · obtain ⟨p, rfl⟩ : ∃ p, m = p + 1 := ⟨m - 1, by omega⟩
          obtain rfl : z = (p : Int) := by have := HZ.out; omega
          have hpn : p < n := by omega
          have hpi : (p : Int) < (n : Int) := by omega
          have hp0 : (0 : Int) ≤ (p : Int) := by omega
          obtain ⟨b2, off2, rfl, hbz2, hc⟩ := (HR.out.below HF.out.be).at_ hpn
          have c1 := hc 1 (by omega)
          have hl0 := HF.out.l
          have ho := HF.out.o
          obtain ⟨F, hF⟩ := HF.out.r
          have cf := hF p hpn
          obtain ⟨x, hx⟩ : ∃ x, x = f p 1 := ⟨_, rfl⟩
          obtain ⟨y, hy⟩ : ∃ x, x = F p := ⟨_, rfl⟩
          rw [← hx] at c1
          rw [← hy] at cf
          have HC : Hid (∀ W', Below wx.heap.size wx W' → Calls Try.prog 113 #[.int .i64 x, .int .i64 y, .pointer (some ⟨w.heap.size, 0, none⟩), .pointer (some ⟨w.heap.size + 2, 0, none⟩)] W' (FlowPost w.heap.size n (some ⟨b2, off2, none⟩) c w)) := Lib.hid fun W' hW => addflow_any w.heap.size n c f x y (some ⟨b2, off2, none⟩) w W' (Nat.le_refl _) HR.out HN.out (HF.out.below hW)
          have HM := Lib.hid hm
          clear hc hF hx hy hm h0 HZ
          go_wp2_with fail
          go_still_tail 10, (by kernel_rfl)
          change wpList _ _ _ _ _ wx.drew
          clear cf c1 hl0 ho
          go_wp2_with fail
          refine (HC.out _ ((Below.refl _ _).drew)).mono ?_
          rintro e w2 ⟨rfl, hf2⟩
          have HF2 := Lib.hid hf2
          clear hf2 HC
          go_wp2
          go_roundw
          case rel => exact ⟨p, _, by have := HM.out; omega, rfl, Lib.hid rfl, HF2⟩
          case measure => simp [intOf]; try omega
end Go.Proofs.Ytljhocdbfbjpiaa
