/-
  The walks of clone and own of the queues: groups in new memory.
-/
import Derived.Test.YthabkfmbdkgghaaQueueWalkA
import Derived.Deep.OwnRows
import Derived.Laws.CopyOwn
import Derived.Laws.OwnMore
import Derived.Deep.AppendLies
import Derived.Deep.RegionLaw
namespace Go.Proofs.Ythabkfmbdkgghaa
open Go.RowKit

def zeros (n : Nat) : List Value := List.replicate n (.int .i64 0)
theorem zeros_made (n : Nat) : madeCells #[.int .i64 0] n = (zeros n).toArray := by
  have := toList_madeCells_one (.int .i64 0) n
  apply Array.toList_inj.1
  rw [this, zeros]
theorem zeros_len (n : Nat) : (zeros n).length = n := by simp [zeros]
theorem int_info : (Try.prog.info? 3).map (fun i => (i.zero, i.size, i.bytes)) = some (some (.int .i64 0), 1, 8) := by kernel_rfl
theorem int_size : (Try.prog.info? 3).map (·.size) = some 1 := by kernel_rfl
theorem make_ints (n : Nat) (hn : n ≤ 1000) (w : World) : (Instr.makeSlice 22 (.int .i64 (n : Int)) (.int .i64 (n : Int))).run Try.prog w = .ok (.slice (some ⟨w.heap.size, 0, none⟩) n n) (w.alloc (.cells (zeros n).toArray 3)) := by
  rw [← zeros_made]
  exact run_make_row' 22 3 (.int .i64 0) 8 Try.underlying22 int_info rfl .i64 .i64 n (by omega) (by omega) w

theorem splice_all (n : Nat) (xs : List Value) (h : xs.length = n) : splice (zeros n) 0 xs = xs := by
  have : (zeros n).length = n := zeros_len n
  simp [splice, h]
  omega

theorem clone_any (gs : List Int) (A : Option Addr) (c : Nat) (w : World) (hl : gs.length ≤ 300) (hR : Rd w A gs) :
    Calls Try.prog 25 #[.slice A gs.length c] w fun e w' => e = .returned (.slice (some ⟨w.heap.size, 0, none⟩) gs.length gs.length) ∧ Own w.heap.size w' (some ⟨w.heap.size, 0, none⟩) gs ∧ Below w.heap.size w w' ∧ w.heap.size < w'.heap.size ∧
      w'.ownsRow w.heap.size 3 1 (.slice (some ⟨w.heap.size, 0, none⟩) gs.length gs.length) gs.length (gs.map (Value.int .i64)) := by
  have hmk := make_ints gs.length (by omega)
  obtain ⟨cs, hcs⟩ : ∃ cs, cs = gs.map (Value.int .i64) := ⟨_, rfl⟩
  have hlen : cs.length = gs.length := by rw [hcs]; simp
  have hone : ∀ v ∈ cs, v.oneCell' = true := by
    rw [hcs]; intro v hv; simp at hv; obtain ⟨x, _, rfl⟩ := hv; rfl
  have hcell : 0 < gs.length → ∃ ad, A = some ad ∧ ∀ j v, cs[j]? = some v → (w.alloc (.cells (zeros gs.length).toArray 3)).cell? (ad.add j) = some v := by
    intro hp
    obtain ⟨b, off, e, hb, hc⟩ := hR hp
    refine ⟨_, e, fun j v hj => ?_⟩
    rw [Go.WideShapes.add_plain, World.cell?_alloc_lt _ _ _ hb]
    have hjl : j < gs.length := by
      have := (List.getElem?_eq_some_iff.1 hj).1; omega
    rw [hc j hjl]
    rw [hcs, List.getElem?_map, List.getElem?_eq_getElem hjl] at hj
    rw [List.getElem?_eq_getElem hjl]
    simpa using hj
  have HL := Lib.hid hlen
  have HC := Lib.hid hcs
  have H1 := Lib.hid hone
  have HX := Lib.hid hcell
  have HR := Lib.hid hR
  clear hlen hcs hone hcell hR
  go_enter Try.func25, Try.ntmps25
  go_wp2_with (with_reducible refine wpList_copy_splice rfl (.tmp 7) (.tmp 8) 22 22 rfl 3 Try.underlying22 int_size _ _ _ _ _ _ rfl rfl w.heap.size 0 (zeros gs.length) 3 ?hg cs ?hn ?hpos ?hfit ?h1 w.heap.size w ?hb (Nat.le_refl _) ?_)
  case hg => exact heap_alloc_new w _
  case hn => rw [HL.out]; exact (Nat.min_self _).symm
  case hpos =>
    rw [HL.out]
    intro hp
    exact HX.out hp
  case hfit => rw [HL.out, zeros_len]; omega
  case h1 => exact H1.out
  case hb => exact (Below.refl _ _).alloc (Nat.le_refl _) _
  intro w2 hg hb
  go_wp2
  go_ret
  have hg' := hg.out
  rw [splice_all _ _ HL.out, HC.out] at hg'
  refine ⟨rfl, Own.of_block hg' (Nat.le_refl _), hb, ?_, by simp, .inr ⟨w.heap.size, gs.length, (gs.map (Value.int .i64)).toArray, rfl, Nat.le_refl _, hg', Nat.le_refl _, by simp only [maxLen]; omega, by simp, List.take_of_length_le (by simp)⟩⟩
  rcases Nat.lt_or_ge w.heap.size w2.heap.size with h | h
  · exact h
  · rw [Array.getElem?_eq_none h] at hg'; cases hg'

theorem below_grown {W w1 : World} (hg : W.grownBy w1 (Value.slice none 0 0).ownBlock) : Below W.heap.size W w1 :=
  (Below.refl _ _).grown hg (Nat.le_refl _) fun k hk => by simp [Value.ownBlock] at hk

theorem owns_set {w : World} {B n : Nat} {t : TypeId} {v : Value} {xs : List Value} (h : w.ownsRow B t 1 v n xs) {p : Addr} (hp : v.ownBlock ≠ some p.block) (u : Value) : (w.setCell p u).ownsRow B t 1 v n xs := by
  refine ⟨h.1, ?_⟩
  rcases h.2 with h0 | ⟨g, cap, cur, hv, hB, hh, r⟩
  · exact .inl h0
  · refine .inr ⟨g, cap, cur, hv, hB, ?_, r⟩
    rw [Below.heap_setCell _ _ _ _ (fun e => hp (by rw [hv]; simp [Value.ownBlock, e]))]
    exact hh

/-- own: the groups in new memory. -/
def OwnPost (w : World) (gs : List Int) (s : Int) (e : Ending) (w' : World) : Prop :=
  ∃ (A : Option Addr) (c : Nat), e = .returned (qv A gs.length c s) ∧ Own w.heap.size w' A gs ∧ Below w.heap.size w w' ∧ gs.length ≤ c ∧ w'.ownsRow w.heap.size 3 1 (.slice A gs.length c) gs.length (gs.map (Value.int .i64))

theorem own_nil (s : Int) (A : Option Addr) (c : Nat) (w : World) : Calls Try.prog 26 #[qv A 0 c s] w (OwnPost w [] s) := by
  cases A
  all_goals
    go_enter Try.func26, Try.ntmps26
    go_wp2
    go_region
  all_goals
    go_wp2
    go_returns
    exact ⟨none, 0, rfl, Own.nil _ _ _, by go_grown, by simp, World.ownsRow_nil _ _ _ _⟩

theorem own_some (gs : List Int) (s : Int) (b off c : Nat) (w : World) (hl : gs.length ≤ 300) (hp : 0 < gs.length) (hb : b < w.heap.size) (hR : ∀ i, i < gs.length → w.cell? ⟨b, off + i, none⟩ = some (.int .i64 (gs[i]?.getD 0))) :
    Calls Try.prog 26 #[qv (some ⟨b, off, none⟩) gs.length c s] w (OwnPost w gs s) := by
  obtain ⟨i0, hi0, hz0, hz1, hz2⟩ := info_parts int_info
  obtain ⟨cs, hcs⟩ : ∃ cs, cs = gs.map (Value.int .i64) := ⟨_, rfl⟩
  have hlen : cs.length = gs.length * 1 := by rw [hcs]; simp
  have hone : ∀ v ∈ cs, v.oneCell' = true := by
    rw [hcs]; intro v hv; simp at hv; obtain ⟨x, _, rfl⟩ := hv; rfl
  have hcell : ∀ (W : World), (∀ i, W.cell? ⟨b, off + i, none⟩ = w.cell? ⟨b, off + i, none⟩) → ∀ j v, cs[j]? = some v → W.cell? ((⟨b, off, none⟩ : Addr).add j) = some v := by
    intro W hW j v hj
    rw [Go.WideShapes.add_plain, hW]
    have hjl : j < gs.length := by
      have := (List.getElem?_eq_some_iff.1 hj).1; omega
    rw [hR j hjl]
    rw [hcs, List.getElem?_map, List.getElem?_eq_getElem hjl] at hj
    rw [List.getElem?_eq_getElem hjl]
    simpa using hj
  have HL := Lib.hid hlen
  have HC := Lib.hid hcs
  have H1 := Lib.hid hone
  have HX := Lib.hid hcell
  have HR := Lib.hid hR
  have HI := Lib.hid (And.intro hi0 (And.intro hz0 (And.intro hz1 hz2)))
  clear hlen hcs hone hcell hR hi0 hz0 hz1 hz2
  go_enter Try.func26, Try.ntmps26
  go_wp2
  go_region_law (refine step_append_lies _ rfl (.const (.slice none 0 0)) (.tmp 4) 22 rfl w.heap.size 3 i0 _ 1 8 Try.underlying22 HI.out.1 HI.out.2.1 HI.out.2.2.1 HI.out.2.2.2 rfl (by omega) (.slice none 0 0) 0 [] rfl ⟨by simp, .inl ⟨rfl, rfl⟩⟩ ⟨b, off, none⟩ gs.length c cs (by first | (simp [Act.eval]; done) | simp [Act.eval, Act.put]) HL.out (HX.out _ (fun i => by simp [go_sem, World.cell?_alloc_past, hb, Nat.lt_add_right])) H1.out hp (by simp only [maxLen]; omega) (by omega) (by first | (simp; done) | (simp; omega)) _ rfl ?_; intro g cap w1 hown hgrow hat hlt; have hb1 := below_grown hgrow; obtain ⟨hc1, hf1⟩ := bcell hb1; have hz1 := hb1.size; (try simp at hz1); have k1 : w.heap.size < w1.heap.size := (by omega); have k2 : w.heap.size + 1 < w1.heap.size := (by omega))
  all_goals
    go_wp2
    have hg : g ≠ w.heap.size + 1 := by
      rcases hat with h | h
      · simp [Value.ownBlock] at h
      · simp at h; omega
    have ho : w1.ownsRow w.heap.size 3 1 (.slice (some ⟨g, 0, none⟩) gs.length cap) gs.length (gs.map (Value.int .i64)) := by
      have := hown
      rw [HC.out] at this
      simpa using this
    refine bodyPost_ret (v := qv (some ⟨g, 0, none⟩) gs.length cap s) (by simp [results, Try.results26, go_sem, hc1]) rfl ?_
    refine ⟨some ⟨g, 0, none⟩, cap, rfl, ((Own.of_owns ho).set (by simpa using fun e => hg e.symm) _).set (by simpa using fun e => hg e.symm) _, ?_, ?_, ?_⟩
    · have hb2 : Below w.heap.size w w1 := by
        refine Below.trans ?_ (hb1.mono (by simp; omega))
        go_grown
      exact ((hb2.setCell (by simp) _).setCell (by simp) _)
    · rcases ho.2 with ⟨h0, _⟩ | ⟨_, _, _, hv, _, _, hnc, _⟩
      · cases h0
      · injection hv with _ _ hv; omega
    · exact owns_set (owns_set ho (by simpa [Value.ownBlock] using fun e => hg e) _) (by simpa [Value.ownBlock] using fun e => hg e) _

theorem own_any (gs : List Int) (s : Int) (A : Option Addr) (c : Nat) (w : World) (hl : gs.length ≤ 300) (hR : Rd w A gs) : Calls Try.prog 26 #[qv A gs.length c s] w (OwnPost w gs s) := by
  cases gs with
  | nil => exact own_nil s A c w
  | cons g r =>
    obtain ⟨b, off, rfl, hb, hc⟩ := hR (by simp)
    exact own_some (g :: r) s b off c w hl (by simp) hb hc
end Go.Proofs.Ythabkfmbdkgghaa
