/-
  The pumps of a set, as a list; the walk of the function that lists them.
-/
import Derived.Test.YtljhocdbfbjpiaaWtPumpB
import Derived.Laws.AppendOwn
import Derived.Deep.AppendLies
import Derived.OwnWalk
import Derived.Deep.OwnRows
namespace Go.Proofs.Ytljhocdbfbjpiaa
open Go.RowKit

namespace Wt
def memL (n set : Nat) : List Int := ((List.range n).filter fun i => set.testBit i).map fun (i : Nat) => (i : Int)
theorem memL_succ (i set : Nat) : memL (i + 1) set = if set.testBit i then memL i set ++ [(i : Int)] else memL i set := by
  unfold memL
  by_cases h : set.testBit i = true
  · rw [if_pos h]; simp [List.range_succ, List.filter_append, h]
  · rw [if_neg h]; simp [List.range_succ, List.filter_append, h]
theorem memL_len (n set : Nat) : (memL n set).length ≤ n := by
  unfold memL
  rw [List.length_map]
  exact Nat.le_trans (List.length_filter_le _ _) (by simp)
theorem memL_end {set i : Nat} (h : set / 2 ^ i = 0) : ∀ d, memL (i + d) set = memL i set
  | 0 => rfl
  | d + 1 => by
    rw [← Nat.add_assoc, memL_succ, if_neg, memL_end h d]
    have h1 : set < 2 ^ i := by
      rcases Nat.div_eq_zero_iff.1 h with h | h
      · have := Nat.two_pow_pos i; omega
      · exact h
    have h2 : set < 2 ^ (i + d) := Nat.lt_of_lt_of_le h1 (Nat.pow_le_pow_right (by decide) (by omega))
    rw [Nat.testBit_lt_two_pow h2]; decide
theorem and_one : ∀ q : Nat, q < 256 → bits BinOp.and IntKind.i64 (q : Int) 1 = ((q % 2 : Nat) : Int) := by decide +kernel
theorem bit_eq (set k : Nat) : set.testBit k = decide (set / 2 ^ k % 2 = 1) := Nat.testBit_eq_decide_div_mod_eq
end Wt
theorem own_of_row {B : Nat} {w : World} {A : Option Addr} {c : Nat} {xs : List Int} (h : w.ownsRow B 3 1 (.slice A xs.length c) xs.length (xs.map (Value.int .i64))) : Own B w A xs := by
  rcases h.2 with ⟨h0, h1⟩ | ⟨g, cap, cur, hv, _⟩
  · cases xs with
    | nil => exact Own.nil _ _ _
    | cons a b => simp at h1
  · injection hv with hv
    subst hv
    exact Own.of_owns h
theorem int_info : (Try.prog.info? 3).map (fun i => (i.zero, i.size, i.bytes)) = some (some (.int .i64 0), 1, 8) := by kernel_rfl

set_option maxRecDepth 20000 in
set_option maxHeartbeats 4000000 in
theorem members_any (n set : Nat) (w : World) (hn : n ≤ 8) (hs : set < 2 ^ n) :
    Calls Try.prog 89 #[.int .i64 (set : Int)] w fun e w' => ∃ (A : Option Addr) (c : Nat), e = .returned (.slice A (Wt.memL n set).length c) ∧ Own w.heap.size w' A (Wt.memL n set) ∧ Below w.heap.size w w' := by
  obtain ⟨i0, hi0, hz0, hz1, hz2⟩ := info_parts int_info
  have HI := Lib.hid (And.intro hi0 (And.intro hz0 (And.intro hz1 hz2)))
  clear hi0 hz0 hz1 hz2
  have hs32 : set < 256 := Nat.lt_of_lt_of_le hs (show 2 ^ n ≤ 2 ^ 8 from Nat.pow_le_pow_right (by decide) hn)
  have HS := Lib.hid hs
  clear hs
  go_enter Try.func89, Try.ntmps89
  go_wp2
  go_loopw [3, 4] (fun i3 i wr => ∃ (k c : Nat) (A : Option Addr), k ≤ n ∧ i = .int .i64 k ∧ i3 = .slice A (Wt.memL k set).length c ∧ wr.ownsRow w.heap.size 3 1 i3 (Wt.memL k set).length ((Wt.memL k set).map (Value.int .i64)) ∧ Below w.heap.size w wr) (fun _ i _ => n - (intOf i).toNat)
  case atStart => exact ⟨0, 0, none, Nat.zero_le _, rfl, rfl, World.ownsRow_nil _ _ _ _, Below.refl _ _⟩
  case round =>
    obtain ⟨k, c, A, hk, rfl, rfl, hrow, hb⟩ := hrel
    have hk5 : (k : Int) ≤ 8 := by omega
    have hq32 : set / 2 ^ k < 256 := Nat.lt_of_le_of_lt (Nat.div_le_self _ _) hs32
    have eQ : (set : Int) / 2 ^ k = ((set / 2 ^ k : Nat) : Int) := by simp
    have ea := Wt.and_one _ hq32
    have eb := Wt.bit_eq set k
    have hend : set / 2 ^ k = 0 → Wt.memL n set = Wt.memL k set := fun h => by
      have := Wt.memL_end h (n - k)
      rw [show k + (n - k) = n by omega] at this
      exact this
    have hlt : set / 2 ^ k ≠ 0 → k < n := fun h => by
      rcases Nat.lt_or_ge k n with h1 | h1
      · exact h1
      · exfalso; apply h
        exact Nat.div_eq_of_lt (Nat.lt_of_lt_of_le HS.out (Nat.pow_le_pow_right (by decide) h1))
    have hsucc := Wt.memL_succ k set
    have hlen := Wt.memL_len k set
    rw [← eQ] at ea
    generalize set / 2 ^ k = q at *
    have HEND := Lib.hid hend
    have HLT := Lib.hid hlt
    have HSUC := Lib.hid hsucc
    clear hend hlt hsucc
    by_cases hz : q = 0
    · have n1 : ((set : Int) / 2 ^ k != 0) = false := by rw [eQ, hz]; rfl
      have HE := Lib.hid (HEND.out hz)
      clear ea eb eQ hz
      go_wp2
      go_ret
      exact ⟨A, c, by rw [HE.out]; rfl, by rw [HE.out]; exact own_of_row hrow, hb⟩
    · have n1 : ((set : Int) / 2 ^ k != 0) = true := by rw [eQ]; exact bne_iff_ne.2 (by omega)
      have HKN := Lib.hid (HLT.out hz)
      by_cases hb1 : q % 2 = 1
      · have e2 : bits BinOp.and IntKind.i64 ((set : Int) / 2 ^ k) 1 = 1 := by rw [ea, hb1]; rfl
        have hm : Wt.memL (k + 1) set = Wt.memL k set ++ [(k : Int)] := by rw [HSUC.out, eb, hb1]; simp
        have HM := Lib.hid hm
        clear ea eb eQ hz hm hb1
        generalize Wt.memL k set = l at *
        have hll : l.length ≤ 8 := by omega
        go_wp2_with (first
          | (at_builtin; refine wpList_append_lies _ rfl (.tmp 16) (.tmp 18) 28 rfl w.heap.size 3 i0 _ 1 8 Try.underlying28 HI.out.1 HI.out.2.1 HI.out.2.2.1 HI.out.2.2.2 rfl (by omega) (.slice A l.length c) l.length (l.map (Value.int .i64)) rfl (hrow.alloc (.cells #[.int .i64 (k : Int)] 3)) ⟨wr.heap.size, 0, none⟩ 1 1 [.int .i64 (k : Int)] rfl rfl (cell_one_new _ _ _) (by simp [Value.oneCell']) (by omega) (by simp only [maxLen]; omega) (by omega) (by have := hb.size; simp; omega) _ rfl ?_; intro g cap w2 hown2 hgrow hat hlt)
          | go_in)
        have hB2 : Below w.heap.size w w2 := (hb.alloc hb.size _).grown hgrow (by have := hb.size; simp; omega) (fun j hj => (hrow.lt j hj).1)
        go_roundw
        case rel =>
          refine ⟨k + 1, cap, some ⟨g, 0, none⟩, HKN.out, by go_num, by rw [HM.out]; simp, ?_, hB2⟩
          rw [HM.out]
          simpa using hown2
        case measure => have := HKN.out; simp [intOf]; omega
      · have e2 : bits BinOp.and IntKind.i64 ((set : Int) / 2 ^ k) 1 = 0 := by rw [ea, show q % 2 = 0 by omega]; rfl
        have hm : Wt.memL (k + 1) set = Wt.memL k set := by rw [HSUC.out, eb]; simp [hb1]
        have HM := Lib.hid hm
        clear ea eb eQ hz hm hb1
        go_wp2
        go_roundw
        case rel => exact ⟨k + 1, c, A, HKN.out, by go_num, by rw [HM.out], by rw [HM.out]; exact hrow, hb⟩
        case measure => have := HKN.out; simp [intOf]; omega
namespace Wt
theorem mem_memL {n set i : Nat} : (i : Int) ∈ memL n set ↔ i < n ∧ set.testBit i = true := by
  unfold memL
  simp only [List.mem_map, List.mem_filter, List.mem_range]
  constructor
  · rintro ⟨a, ⟨h1, h2⟩, h3⟩
    have : a = i := by omega
    subst this; exact ⟨h1, h2⟩
  · rintro ⟨h1, h2⟩
    exact ⟨i, ⟨h1, h2⟩, rfl⟩
/-- The set of the elements of a list below n. -/
def setOf (ch : List Int) : Nat → Nat
  | 0 => 0
  | n + 1 => setOf ch n + (if (n : Int) ∈ ch then 2 ^ n else 0)
theorem setOf_lt (ch : List Int) : ∀ n, setOf ch n < 2 ^ n
  | 0 => by simp [setOf]
  | n + 1 => by
    have := setOf_lt ch n
    simp only [setOf]
    rw [Nat.pow_succ]
    split <;> omega
theorem setOf_bit (ch : List Int) : ∀ {n i : Nat}, i < n → ((setOf ch n).testBit i = true ↔ (i : Int) ∈ ch)
  | 0, _, h => absurd h (by omega)
  | n + 1, i, h => by
    have hlt := setOf_lt ch n
    simp only [setOf]
    by_cases hi : i = n
    · subst hi
      by_cases hc : (i : Int) ∈ ch
      · rw [if_pos hc, Nat.add_comm, Nat.testBit_two_pow_add_eq, Nat.testBit_lt_two_pow hlt]
        simp [hc]
      · rw [if_neg hc, Nat.add_zero, Nat.testBit_lt_two_pow hlt]
        simp [hc]
    · have hin : i < n := by omega
      have ih := setOf_bit ch hin
      by_cases hc : (n : Int) ∈ ch
      · rw [if_pos hc, Nat.add_comm, Nat.testBit_two_pow_add_gt hin]
        exact ih
      · rw [if_neg hc, Nat.add_zero]; exact ih
end Wt
/-- A choice is as good as a set. -/
theorem chS_set (f : Nat → Nat → Int) (col : Nat) (ch : List Int) (n : Nat) : ∀ m, m ≤ n → chS f col (Wt.memL n (Wt.setOf ch n)) m = chS f col ch m
  | 0, _ => rfl
  | m + 1, h => by
    have ih := chS_set f col ch n m (by omega)
    have e : ((m : Int) ∈ Wt.memL n (Wt.setOf ch n)) ↔ ((m : Int) ∈ ch) := by
      rw [Wt.mem_memL, Wt.setOf_bit ch (by omega : m < n)]
      exact ⟨fun h => h.2, fun h' => ⟨by omega, h'⟩⟩
    simp only [chS]
    rw [ih]
    by_cases hc : (m : Int) ∈ ch
    · rw [if_pos hc, if_pos (e.2 hc)]
    · rw [if_neg hc, if_neg (fun h => hc (e.1 h))]
end Go.Proofs.Ytljhocdbfbjpiaa
