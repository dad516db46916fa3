/-
  The walks of Join and Single of the queues, of the program and of the reference.
-/
import Derived.Test.YthabkfmbdkgghaaQueueWalkE
import Derived.OwnWalk
namespace Go.Proofs.Ythabkfmbdkgghaa
open Go.RowKit

theorem grown_far {W w2 : World} {V : Value} {base n : Nat} {t : TypeId} {xs : List Value} (hown : W.ownsRow base t 1 V n xs) (hg : W.grownBy w2 V.ownBlock) :
    (∀ b o, b < base → b < W.heap.size → w2.cell? ⟨b, o, none⟩ = W.cell? ⟨b, o, none⟩) ∧ (∀ b o, b < base → b < W.heap.size → w2.frozen? ⟨b, o, none⟩ = W.frozen? ⟨b, o, none⟩) := by
  have hne : ∀ b, b < base → some b ≠ V.ownBlock := fun b hb e => by
    have := (hown.lt b e.symm).1; omega
  exact ⟨fun b o h1 h2 => hg.cell_far ⟨b, o, none⟩ h2 (hne b h1), fun b o h1 h2 => hg.frozen_far ⟨b, o, none⟩ h2 (hne b h1)⟩

def JoinPost (w : World) (gs : List Int) (s n : Int) (e : Ending) (w' : World) : Prop :=
  ∃ (A : Option Addr) (c : Nat), e = .returned (.tuple #[qv A (gs.length + 1) c s, .int .i64 0]) ∧ Own w.heap.size w' A (gs ++ [n]) ∧ Below w.heap.size w w'

theorem join_bad (gs : List Int) (s n : Int) (A : Option Addr) (c : Nat) (w : World) (hn : n < 1 ∨ 16 < n) :
    Calls Try.prog 21 #[qv A gs.length c s, .int .i64 n] w fun e w' => e = .returned (.tuple #[qv none 0 0 0, .int .i64 2]) ∧ Below w.heap.size w w' := by
  rcases hn with hn | hn
  all_goals
    go_enter Try.func21, Try.ntmps21
    go_wp2
    go_returns
    exact ⟨rfl, by go_grown⟩
theorem rjoin_bad (gs : List Int) (s n : Int) (A : Option Addr) (c : Nat) (w : World) (hn : n < 1 ∨ 16 < n) :
    Calls Try.prog 22 #[qv A gs.length c s, .int .i64 n] w fun e w' => e = .returned (.tuple #[qv none 0 0 0, .int .i64 2]) ∧ Below w.heap.size w w' := by
  rcases hn with hn | hn
  all_goals
    go_enter Try.func22, Try.ntmps22
    go_wp2
    go_returns
    exact ⟨rfl, by go_grown⟩
theorem join_full (gs : List Int) (s n : Int) (A : Option Addr) (c : Nat) (w : World) (hn : 1 ≤ n) (hn' : n ≤ 16) (hl : 200 ≤ gs.length) :
    Calls Try.prog 21 #[qv A gs.length c s, .int .i64 n] w fun e w' => e = .returned (.tuple #[qv none 0 0 0, .int .i64 9]) ∧ Below w.heap.size w w' := by
  have hl' : (200 : Int) ≤ (gs.length : Int) := by omega
  clear hl
  go_enter Try.func21, Try.ntmps21
  go_wp2
  go_returns
  exact ⟨rfl, by go_grown⟩
theorem rjoin_full (gs : List Int) (s n : Int) (A : Option Addr) (c : Nat) (w : World) (hn : 1 ≤ n) (hn' : n ≤ 16) (hl : 200 ≤ gs.length) :
    Calls Try.prog 22 #[qv A gs.length c s, .int .i64 n] w fun e w' => e = .returned (.tuple #[qv none 0 0 0, .int .i64 9]) ∧ Below w.heap.size w w' := by
  have hl' : (200 : Int) ≤ (gs.length : Int) := by omega
  clear hl
  go_enter Try.func22, Try.ntmps22
  go_wp2
  go_returns
  exact ⟨rfl, by go_grown⟩

set_option maxHeartbeats 1000000 in
theorem join_ok (gs : List Int) (s n : Int) (A : Option Addr) (c : Nat) (w : World) (hn : 1 ≤ n) (hn' : n ≤ 16) (hl : gs.length < 200) (hR : Rd w A gs) :
    Calls Try.prog 21 #[qv A gs.length c s, .int .i64 n] w (JoinPost w gs s n) := by
  have hl' : decide ((200 : Int) ≤ (gs.length : Int)) = false := by simp; omega
  have HL := Lib.hid hl
  clear hl
  obtain ⟨i0, hi0, hz0, hz1, hz2⟩ := info_parts int_info
  have HI := Lib.hid (And.intro hi0 (And.intro hz0 (And.intro hz1 hz2)))
  have HR := Lib.hid hR
  clear hi0 hz0 hz1 hz2 hR
  go_enter Try.func21, Try.ntmps21
  go_wp2_with fail
  refine (clone_any gs A c _ (by have := HL.out; omega) (HR.out.below (by go_grown))).mono ?_
  rintro e w1 ⟨rfl, -, hb1, hz1, hrow⟩
  obtain ⟨hc1, hf1⟩ := bcell hb1
  simp at hz1 hrow
  have k1 : w.heap.size < w1.heap.size := by omega
  have k2 : w.heap.size + 1 < w1.heap.size := by omega
  have hB1 : Below w.heap.size w w1 := thru (by go_grown) hb1 (by first | omega | (simp; omega))
  obtain ⟨cs, hcs⟩ : ∃ cs, cs = gs.map (Value.int .i64) := ⟨_, rfl⟩
  rw [← hcs] at hrow
  have HCS := Lib.hid hcs
  have HROW := Lib.hid (hrow.alloc (.cells #[.int .i64 n] 3))
  clear hcs hrow
  go_wp2_with (at_builtin; refine wpList_append_lies _ rfl (.tmp 20) (.tmp 22) 22 rfl (w.heap.size + 1 + 1) 3 i0 _ 1 8 Try.underlying22 HI.out.1 HI.out.2.1 HI.out.2.2.1 HI.out.2.2.2 rfl (by omega) (.slice (some ⟨w.heap.size + 1 + 1, 0, none⟩) gs.length gs.length) gs.length cs rfl HROW.out ⟨w1.heap.size, 0, none⟩ 1 1 [.int .i64 n] rfl rfl (cell_one_new _ _ _) (by simp [Value.oneCell']) (by omega) (by have := HL.out; simp only [maxLen]; omega) (by have := HL.out; omega) (by simp; omega) _ rfl ?_; intro g cap w2 hown2 hgrow hat hlt; obtain ⟨hcg, hfg⟩ := grown_far HROW.out hgrow)
  have ho : w2.ownsRow (w.heap.size + 1 + 1) 3 1 (.slice (some ⟨g, 0, none⟩) (gs.length + 1) cap) (gs.length + 1) ((gs ++ [n]).map (Value.int .i64)) := by
    have := hown2
    rw [HCS.out] at this
    simpa using this
  have hO := Own.of_owns ho
  have hB2 : Below w.heap.size w w2 := (hB1.alloc (by first | omega | (simp; omega)) (.cells #[.int .i64 n] 3)).grown hgrow (by first | omega | (simp; omega)) (fun k hk => by simp [Value.ownBlock] at hk; omega)
  refine bodyPost_ret (by simp [results, Try.results21, go_sem, hcg, hc1, k1, k2]; rfl) rfl ?_
  refine ⟨some ⟨g, 0, none⟩, cap, rfl, ((((hO.setOff (hO.off (by first | omega | (simp; omega))) _).setOff (hO.off (by first | omega | (simp; done) | (simp; omega))) _).setOff (hO.off (by first | omega | (simp; done) | (simp; omega))) _).mono (by omega)), ?_⟩
  exact ((hB2.setCell (by simp) _).setCell (by simp) _).setCell (by simp) _

set_option maxHeartbeats 1000000 in
theorem rjoin_ok (gs : List Int) (s n : Int) (A : Option Addr) (c : Nat) (w : World) (hn : 1 ≤ n) (hn' : n ≤ 16) (hl : gs.length < 200) (hR : Rd w A gs) :
    Calls Try.prog 22 #[qv A gs.length c s, .int .i64 n] w (JoinPost w gs s n) := by
  have hl' : decide ((200 : Int) ≤ (gs.length : Int)) = false := by simp; omega
  have HL := Lib.hid hl
  clear hl
  obtain ⟨i0, hi0, hz0, hz1, hz2⟩ := info_parts int_info
  have HI := Lib.hid (And.intro hi0 (And.intro hz0 (And.intro hz1 hz2)))
  have HR := Lib.hid hR
  clear hi0 hz0 hz1 hz2 hR
  go_enter Try.func22, Try.ntmps22
  go_wp2_with fail
  refine (own_any gs s A c _ (by have := HL.out; omega) (HR.out.below (by go_grown))).mono ?_
  rintro e w1 ⟨A1, c1, rfl, -, hb1, -, hrow⟩
  obtain ⟨hc1, hf1⟩ := bcell hb1
  have hz1 := hb1.size
  simp at hz1 hrow
  have k1 : w.heap.size < w1.heap.size := by omega
  have k2 : w.heap.size + 1 < w1.heap.size := by omega
  have hB1 : Below w.heap.size w w1 := thru (by go_grown) hb1 (by first | omega | (simp; omega))
  obtain ⟨cs, hcs⟩ : ∃ cs, cs = gs.map (Value.int .i64) := ⟨_, rfl⟩
  rw [← hcs] at hrow
  have HCS := Lib.hid hcs
  have hlt := hrow.lt
  have HLT := Lib.hid hlt
  have HROW := Lib.hid ((hrow.alloc (.cells #[.slice A1 gs.length c1, .int .i64 s] 24)).alloc (.cells #[.int .i64 n] 3))
  clear hcs hrow hlt
  go_wp2_with (at_builtin; refine wpList_append_lies _ rfl (.tmp 22) (.tmp 24) 22 rfl (w.heap.size + 1 + 1) 3 i0 _ 1 8 Try.underlying22 HI.out.1 HI.out.2.1 HI.out.2.2.1 HI.out.2.2.2 rfl (by omega) (.slice A1 gs.length c1) gs.length cs rfl HROW.out ⟨w1.heap.size + 1, 0, none⟩ 1 1 [.int .i64 n] rfl rfl (by intro j u hu; have := cell_one_new (w1.alloc (.cells #[.slice A1 gs.length c1, .int .i64 s] 24)) (.int .i64 n) 3 j u hu; simpa using this) (by simp [Value.oneCell']) (by omega) (by have := HL.out; simp only [maxLen]; omega) (by have := HL.out; omega) (by simp; omega) _ rfl ?_; intro g cap w2 hown2 hgrow hat hlt; obtain ⟨hcg, hfg⟩ := grown_far HROW.out hgrow; (have c0 : w2.cell? ⟨w1.heap.size, 0, none⟩ = some (.slice A1 gs.length c1) := (hgrow.cell_far ⟨w1.heap.size, 0, none⟩ (by simp; omega) (fun e => by have := (HLT.out _ e.symm).2; simp at this)).trans (by simp [World.cell?_alloc_lt])); (have c1' : w2.cell? ⟨w1.heap.size, 1, none⟩ = some (.int .i64 s) := (hgrow.cell_far ⟨w1.heap.size, 1, none⟩ (by simp; omega) (fun e => by have := (HLT.out _ e.symm).2; simp at this)).trans (by simp [World.cell?_alloc_lt])); (have f0 : ∀ i, w2.frozen? ⟨w1.heap.size, i, none⟩ = false := fun i => (hgrow.frozen_far ⟨w1.heap.size, i, none⟩ (by simp; omega) (fun e => by have := (HLT.out _ e.symm).2; simp at this)).trans (by rw [frozen?_alloc_cells, frozen_new])))
  have ho : w2.ownsRow (w.heap.size + 1 + 1) 3 1 (.slice (some ⟨g, 0, none⟩) (gs.length + 1) cap) (gs.length + 1) ((gs ++ [n]).map (Value.int .i64)) := by
    have := hown2
    rw [HCS.out] at this
    simpa using this
  have hO := Own.of_owns ho
  have hB2 : Below w.heap.size w w2 := ((hB1.alloc (by first | omega | (simp; omega)) (.cells #[.slice A1 gs.length c1, .int .i64 s] 24)).alloc (by first | omega | (simp; omega)) (.cells #[.int .i64 n] 3)).grown hgrow (by first | omega | (simp; omega)) (fun k hk => by have := (HLT.out k hk).1; omega)
  refine bodyPost_ret (by simp [results, Try.results22, go_sem, hcg, hc1, k1, k2]; rfl) rfl ?_
  have hg : w1.heap.size ≠ g := fun e => by
    rcases hat with h | h
    · have := (HLT.out g h).2; omega
    · simp at h; omega
  refine ⟨some ⟨g, 0, none⟩, cap, rfl, ((((hO.set hg _).setOff (hO.off (by first | omega | (simp; done) | (simp; omega))) _).setOff (hO.off (by first | omega | (simp; done) | (simp; omega))) _).mono (by omega)), ?_⟩
  exact ((hB2.setCell (by first | omega | (simp; omega)) _).setCell (by simp) _).setCell (by simp) _

theorem join_any (gs : List Int) (s n : Int) (A : Option Addr) (c : Nat) (w : World) (hn : 1 ≤ n) (hn' : n ≤ 16) (hl : gs.length < 200) (hR : Rd w A gs) :
    Calls Try.prog 21 #[qv A gs.length c s, .int .i64 n] w (JoinPost w gs s n) := join_ok gs s n A c w hn hn' hl hR

/-! ### Single -/
def SinglePost (w : World) (gs : List Int) (s n : Int) (e : Ending) (w' : World) : Prop :=
  ∃ (A : Option Addr) (c : Nat), e = .returned (.tuple #[qv A gs.length c (s + n), .int .i64 0]) ∧ Own w.heap.size w' A gs ∧ Below w.heap.size w w'

theorem single_bad (gs : List Int) (s n : Int) (A : Option Addr) (c : Nat) (w : World) (hn : n < 1 ∨ 1000 < n) :
    Calls Try.prog 23 #[qv A gs.length c s, .int .i64 n] w fun e w' => e = .returned (.tuple #[qv none 0 0 0, .int .i64 2]) ∧ Below w.heap.size w w' := by
  rcases hn with hn | hn
  all_goals
    go_enter Try.func23, Try.ntmps23
    go_wp2
    go_returns
    exact ⟨rfl, by go_grown⟩
theorem rsingle_bad (gs : List Int) (s n : Int) (A : Option Addr) (c : Nat) (w : World) (hn : n < 1 ∨ 1000 < n) :
    Calls Try.prog 24 #[qv A gs.length c s, .int .i64 n] w fun e w' => e = .returned (.tuple #[qv none 0 0 0, .int .i64 2]) ∧ Below w.heap.size w w' := by
  rcases hn with hn | hn
  all_goals
    go_enter Try.func24, Try.ntmps24
    go_wp2
    go_returns
    exact ⟨rfl, by go_grown⟩
theorem single_full (gs : List Int) (s n : Int) (A : Option Addr) (c : Nat) (w : World) (hn : 1 ≤ n) (hn' : n ≤ 1000) (hs : 0 ≤ s) (hs' : s ≤ 10000) (hf : 10000 < s + n) :
    Calls Try.prog 23 #[qv A gs.length c s, .int .i64 n] w fun e w' => e = .returned (.tuple #[qv none 0 0 0, .int .i64 9]) ∧ Below w.heap.size w w' := by
  go_enter Try.func23, Try.ntmps23
  go_wp2
  go_returns
  exact ⟨rfl, by go_grown⟩
theorem rsingle_full (gs : List Int) (s n : Int) (A : Option Addr) (c : Nat) (w : World) (hn : 1 ≤ n) (hn' : n ≤ 1000) (hs : 0 ≤ s) (hs' : s ≤ 10000) (hf : 10000 < s + n) :
    Calls Try.prog 24 #[qv A gs.length c s, .int .i64 n] w fun e w' => e = .returned (.tuple #[qv none 0 0 0, .int .i64 9]) ∧ Below w.heap.size w w' := by
  go_enter Try.func24, Try.ntmps24
  go_wp2
  go_returns
  exact ⟨rfl, by go_grown⟩
theorem single_ok (gs : List Int) (s n : Int) (A : Option Addr) (c : Nat) (w : World) (hn : 1 ≤ n) (hn' : n ≤ 1000) (hs : 0 ≤ s) (hs' : s ≤ 10000) (hf : s + n ≤ 10000) (hl : gs.length ≤ 300) (hR : Rd w A gs) :
    Calls Try.prog 23 #[qv A gs.length c s, .int .i64 n] w (SinglePost w gs s n) := by
  have HR := Lib.hid hR
  clear hR
  go_enter Try.func23, Try.ntmps23
  go_wp2_with fail
  refine (clone_any gs A c _ hl (HR.out.below (by go_grown))).mono ?_
  rintro e w1 ⟨rfl, hown, hb1, hz1, -⟩
  obtain ⟨hc1, hf1⟩ := bcell hb1
  simp at hz1 hown
  have k1 : w.heap.size < w1.heap.size := by omega
  have k2 : w.heap.size + 1 < w1.heap.size := by omega
  have hB1 : Below w.heap.size w w1 := thru (by go_grown) hb1 (by first | omega | (simp; omega))
  have HO := Lib.hid hown
  clear hown
  go_wp2
  refine bodyPost_ret (by simp [results, Try.results23, go_sem, hc1]; rfl) rfl ?_
  have hO := HO.out
  refine ⟨_, _, rfl, (((((hO.setOff (hO.off (by first | omega | (simp; done) | (simp; omega))) _).setOff (hO.off (by first | omega | (simp; done) | (simp; omega))) _).setOff (hO.off (by first | omega | (simp; done) | (simp; omega))) _).setOff (hO.off (by first | omega | (simp; done) | (simp; omega))) _).mono (by omega)), ?_⟩
  exact (((hB1.setCell (by simp) _).setCell (by simp) _).setCell (by simp) _).setCell (by simp) _
theorem rsingle_ok (gs : List Int) (s n : Int) (A : Option Addr) (c : Nat) (w : World) (hn : 1 ≤ n) (hn' : n ≤ 1000) (hs : 0 ≤ s) (hs' : s ≤ 10000) (hf : s + n ≤ 10000) (hl : gs.length ≤ 300) (hR : Rd w A gs) :
    Calls Try.prog 24 #[qv A gs.length c s, .int .i64 n] w (SinglePost w gs s n) := by
  have HR := Lib.hid hR
  clear hR
  go_enter Try.func24, Try.ntmps24
  go_wp2_with fail
  refine (own_any gs s A c _ hl (HR.out.below (by go_grown))).mono ?_
  rintro e w1 ⟨A1, c1, rfl, hown, hb1, -, -⟩
  obtain ⟨hc1, hf1⟩ := bcell hb1
  have hz1 := hb1.size
  simp at hz1 hown
  have k1 : w.heap.size < w1.heap.size := by omega
  have k2 : w.heap.size + 1 < w1.heap.size := by omega
  have hB1 : Below w.heap.size w w1 := thru (by go_grown) hb1 (by first | omega | (simp; omega))
  have HO := Lib.hid hown
  clear hown
  go_wp2
  refine bodyPost_ret (by simp [results, Try.results24, go_sem, hc1, k2]; rfl) rfl ?_
  have hO := HO.out
  refine ⟨_, _, rfl, (((((hO.setOff (hO.off (by first | omega | (simp; done) | (simp; omega))) _).setOff (hO.off (by first | omega | (simp; done) | (simp; omega))) _).below ((Below.refl _ _).alloc (Nat.le_refl _) _))).mono (by omega)), ?_⟩
  exact ((hB1.setCell (by simp) _).setCell (by simp) _).alloc (by first | omega | (simp; done) | (simp; omega)) _
end Go.Proofs.Ythabkfmbdkgghaa
