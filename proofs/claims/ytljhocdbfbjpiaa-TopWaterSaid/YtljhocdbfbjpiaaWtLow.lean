/-
  The nodes whose pressure is too low.
-/
import Derived.Test.YtljhocdbfbjpiaaWtPressB
import Derived.Test.YtljhocdbfbjpiaaWtClone
import Derived.Deep.AppendLies
namespace Go.Proofs.Ytljhocdbfbjpiaa
open Go.RowKit

/-- No node is too low: a flat network, whose root's pressure is enough. -/
def LowOK (f : Nat → Nat → Int) (n : Nat) (root : Int) (ns : List (Int × Int)) : Prop := Flat f n ∧ ∀ k, k < ns.length → (∃ i, i < n ∧ f i 2 = Fix.px ns k) ∧ Fix.py ns k ≤ root
def LowPost (f : Nat → Nat → Int) (n : Nat) (root : Int) (ns : List (Int × Int)) (w : World) (e : Ending) (w' : World) : Prop :=
  (∃ A m c, e = .returned (.slice A m c) ∧ (LowOK f n root ns → m = 0) ∧ m ≤ ns.length) ∧ Below w.heap.size w w'
set_option maxRecDepth 20000 in
set_option maxHeartbeats 8000000 in
theorem low_any (n c d h : Nat) (f : Nat → Nat → Int) (ds ns : List (Int × Int)) (root : Int) (A B C : Option Addr) (w : World) (hR : RI w A 5 n f) (hD : RdP w B ds) (hNs : RdP w C ns) (hn : n ≤ 8) (hl : ds.length ≤ 1000) (hl2 : ns.length ≤ 1000) (h0 : 0 ≤ root) (h1 : root ≤ 10000000) :
    Calls Try.prog 62 #[.slice A n c, .slice B ds.length d, .int .i64 root, .slice C ns.length h] w (LowPost f n root ns w) := by
  have HC := Lib.hid (press_any n c d f ds root A B w hR hD hn hl h0 h1)
  have HR := Lib.hid hR
  have HN := Lib.hid hn
  have HNS := Lib.hid hNs
  have hdi : (ns.length : Int) ≤ 1000 := by omega
  obtain ⟨i0, hi0, hz0, hz1, hz2⟩ := info_parts int_info
  have HI := Lib.hid (And.intro hi0 (And.intro hz0 (And.intro hz1 hz2)))
  clear hR hD hNs hn hi0 hz0 hz1 hz2
  go_enter Try.func62, Try.ntmps62
  go_wp2_with fail
  refine HC.out.mono ?_
  rintro e w1 ⟨T, rfl, hp⟩
  have HP := Lib.hid hp
  have HB := Lib.hid hp.be
  clear hp HC
  go_wp2
  go_loopw [10, 21] (fun v i wr => ∃ (k m : Nat) (xs : List Value), k ≤ ns.length ∧ i = .int .i64 k ∧ m ≤ k ∧ Hid (wr.ownsRow w1.heap.size 3 1 v m xs) ∧ Hid (LowOK f n root ns → m = 0) ∧ Hid (Below w1.heap.size w1 wr)) (fun _ i _ => ns.length - (intOf i).toNat)
  case atStart => exact ⟨0, 0, [], Nat.zero_le _, rfl, Nat.le_refl _, Lib.hid (World.ownsRow_nil _ _ _ _), Lib.hid (fun _ => rfl), Lib.hid (Below.refl _ _)⟩
  case round =>
    obtain ⟨k, m, xs, hk, rfl, hm, HO, HLO, HBR⟩ := hrel
    by_cases hlt : k < ns.length
    · have hlti : (k : Int) < (ns.length : Int) := by omega
      obtain ⟨b, off, rfl, hbz, hc⟩ := ((HNS.out.below HB.out).below HBR.out) (by omega)
      obtain ⟨c0, c1⟩ := hc k hlt
      obtain ⟨x, hx⟩ : ∃ x, x = Fix.px ns k := ⟨_, rfl⟩
      obtain ⟨y, hy⟩ : ∃ x, x = Fix.py ns k := ⟨_, rfl⟩
      rw [← hx] at c0
      rw [← hy] at c1
      have HPA := Lib.hid ((HP.out.below HBR.out).below (Joins.below_alloc1 wr (.cells #[.int .i64 x, .int .i64 y] 53)))
      have HOA0 := Lib.hid (HO.out.alloc (.cells #[.int .i64 x, .int .i64 y] 53))
      have HBA0 := Lib.hid (HBR.out.alloc HBR.out.size (.cells #[.int .i64 x, .int .i64 y] 53))
      have HG := Lib.hid (get_any w.heap.size T n c n f root x A w _ (Nat.le_refl _) HR.out HN.out HPA.out)
      have q0 : (wr.alloc (.cells #[.int .i64 x, .int .i64 y] 53)).cell? ⟨wr.heap.size, 0, none⟩ = some (.int .i64 x) := by simp [go_sem]
      have q1 : (wr.alloc (.cells #[.int .i64 x, .int .i64 y] 53)).cell? ⟨wr.heap.size, 1, none⟩ = some (.int .i64 y) := by simp [go_sem]
      have hwz : wr.heap.size < (wr.alloc (.cells #[.int .i64 x, .int .i64 y] 53)).heap.size := by simp
      have HQ := Lib.hid (And.intro q0 (And.intro q1 hwz))
      have HXY := Lib.hid (And.intro hx hy)
      have HLT := Lib.hid hlt
      have hmk : m + 1 ≤ 1000 := by omega
      clear hc hlt hx hy q0 q1 hwz hbz hk
      go_wp2_with fail
      refine HG.out.mono ?_
      rintro e w2 ⟨⟨v, ok, rfl, hv0, hvi⟩, hb2⟩
      have q0 := (hb2.cell (p := ⟨wr.heap.size, 0, none⟩) HQ.out.2.2).trans HQ.out.1
      have q1 := (hb2.cell (p := ⟨wr.heap.size, 1, none⟩) HQ.out.2.2).trans HQ.out.2.1
      have HO2 := Lib.hid (owns_below HOA0.out hb2)
      have HB2 := Lib.hid (thru HBA0.out hb2 HBA0.out.size)
      have HV : Hid (LowOK f n root ns → ok = true ∧ ¬ v < y) := Lib.hid fun hlow => by
        obtain ⟨hflat, hall⟩ := hlow
        obtain ⟨⟨i, hi, hix⟩, hy⟩ := hall k HLT.out
        rw [← HXY.out.1] at hix
        rw [← HXY.out.2] at hy
        by_cases hx0 : x = 0
        · obtain ⟨rfl, rfl⟩ := hv0 hx0
          exact ⟨rfl, by omega⟩
        · obtain ⟨j, hj⟩ := pFirst_has hi hix
          obtain ⟨rfl, hcell⟩ := hvi j hx0 hj
          obtain ⟨G, hG, hG2⟩ := HPA.out.g
          have hjn := (pFirst_spec hj).1
          rw [hG j hjn] at hcell
          injection hcell with hcell
          injection hcell with _ hcell
          have := hG2 hflat j hjn
          exact ⟨rfl, by omega⟩
      clear hv0 hvi hb2 c0 c1 HG HPA HOA0 HBA0 HQ HO HBR
      cases ok with
      | false =>
        have hz : ¬ LowOK f n root ns := fun h => by have := (HV.out h).1; cases this
        have HOA := Lib.hid (HO2.out.alloc (.cells #[.int .i64 x] 3))
        have HBA := Lib.hid (HB2.out.alloc HB2.out.size (.cells #[.int .i64 x] 3))
        have HSZ := Lib.hid (show w1.heap.size ≤ (w2.alloc (.cells #[.int .i64 x] 3)).heap.size by have := HB2.out.size; simp; omega)
        go_wp2_with (at_builtin; refine wpList_append_any _ rfl (.tmp 40) (.tmp 43) 28 rfl (w1.heap.size) 3 i0 _ 1 8 Try.underlying28 HI.out.1 HI.out.2.1 HI.out.2.2.1 HI.out.2.2.2 rfl (by omega) u10 m xs rfl HOA.out ⟨w2.heap.size, 0, none⟩ 1 1 [.int .i64 x] rfl rfl (World.news_of_block (heap_alloc_new w2 _)) (by simp [Value.oneCell']) (by simp only [maxLen]; omega) (by omega) HSZ.out ?_; intro A5 c5 w5 hown hgrow)
        have HOW : Hid (w5.ownsRow w1.heap.size 3 1 (.slice A5 (m + 1) c5) (m + 1) (xs ++ [.int .i64 x])) := Lib.hid hown
        have HBW : Hid (Below w1.heap.size w1 w5) := Lib.hid (HBA.out.grown hgrow HSZ.out (fun j hj => (HO2.out.lt j hj).1))
        clear hown hgrow HOA HBA q0 q1
        go_wp2
        go_roundw
        case rel => exact ⟨k + 1, m + 1, _, HLT.out, by go_num, by omega, HOW, Lib.hid (fun h => absurd h hz), HBW⟩
        case measure => have := HLT.out; simp [intOf]; omega
      | true =>
        by_cases hvy : v < y
        · have hz : ¬ LowOK f n root ns := fun h => (HV.out h).2 hvy
          have HOA := Lib.hid (HO2.out.alloc (.cells #[.int .i64 x] 3))
          have HBA := Lib.hid (HB2.out.alloc HB2.out.size (.cells #[.int .i64 x] 3))
          have HSZ := Lib.hid (show w1.heap.size ≤ (w2.alloc (.cells #[.int .i64 x] 3)).heap.size by have := HB2.out.size; simp; omega)
          go_wp2_with (at_builtin; refine wpList_append_any _ rfl (.tmp 40) (.tmp 43) 28 rfl (w1.heap.size) 3 i0 _ 1 8 Try.underlying28 HI.out.1 HI.out.2.1 HI.out.2.2.1 HI.out.2.2.2 rfl (by omega) u10 m xs rfl HOA.out ⟨w2.heap.size, 0, none⟩ 1 1 [.int .i64 x] rfl rfl (World.news_of_block (heap_alloc_new w2 _)) (by simp [Value.oneCell']) (by simp only [maxLen]; omega) (by omega) HSZ.out ?_; intro A5 c5 w5 hown hgrow)
          have HOW : Hid (w5.ownsRow w1.heap.size 3 1 (.slice A5 (m + 1) c5) (m + 1) (xs ++ [.int .i64 x])) := Lib.hid hown
          have HBW : Hid (Below w1.heap.size w1 w5) := Lib.hid (HBA.out.grown hgrow HSZ.out (fun j hj => (HO2.out.lt j hj).1))
          clear hown hgrow HOA HBA q0 q1
          go_wp2
          go_roundw
          case rel => exact ⟨k + 1, m + 1, _, HLT.out, by go_num, by omega, HOW, Lib.hid (fun h => absurd h hz), HBW⟩
          case measure => have := HLT.out; simp [intOf]; omega
        · have hvf : decide (v < y) = false := decide_eq_false hvy
          go_wp2
          go_roundw
          case rel => exact ⟨k + 1, m, xs, HLT.out, by go_num, by omega, HO2, HLO, HB2⟩
          case measure => have := HLT.out; simp [intOf]; omega
    · have hlti : decide ((k : Int) < (ns.length : Int)) = false := decide_eq_false (by omega)
      obtain ⟨A9, c9, rfl⟩ := owns_slice HO.out
      have HM : Hid (m ≤ ns.length) := Lib.hid (by omega)
      go_wp2
      go_ret
      exact ⟨⟨A9, m, c9, rfl, HLO.out, HM.out⟩, HB.out.trans (HBR.out.mono HB.out.size)⟩
end Go.Proofs.Ytljhocdbfbjpiaa
