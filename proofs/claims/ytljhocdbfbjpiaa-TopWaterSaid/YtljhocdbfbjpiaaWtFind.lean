/-
  The pipe that leads to a node.
-/
import Derived.Test.YtljhocdbfbjpiaaWtPond
namespace Go.Proofs.Ytljhocdbfbjpiaa
open Go.RowKit

/-- The first pipe that leads to a node. -/
def pFirst (f : Nat → Nat → Int) (x : Int) : Nat → Option Nat
  | 0 => none
  | n + 1 => match pFirst f x n with
    | some i => some i
    | none => if f n 2 = x then some n else none
theorem pFirst_mono {f : Nat → Nat → Int} {x : Int} {i : Nat} : ∀ {k : Nat} (d : Nat), pFirst f x k = some i → pFirst f x (k + d) = some i
  | _, 0, h => h
  | k, d + 1, h => by
    rw [← Nat.add_assoc, pFirst, pFirst_mono d h]
theorem pFirst_spec {f : Nat → Nat → Int} {x : Int} {i : Nat} : ∀ {n : Nat}, pFirst f x n = some i → i < n ∧ f i 2 = x
  | 0, h => by simp [pFirst] at h
  | n + 1, h => by
    rw [pFirst] at h
    cases hk : pFirst f x n with
    | some j =>
      rw [hk] at h
      simp at h
      subst h
      have := pFirst_spec hk
      exact ⟨by omega, this.2⟩
    | none =>
      rw [hk] at h
      by_cases he : f n 2 = x
      · simp [he] at h
        subst h
        exact ⟨by omega, he⟩
      · simp [he] at h
theorem pFirst_has {f : Nat → Nat → Int} {x : Int} : ∀ {n i : Nat}, i < n → f i 2 = x → ∃ j, pFirst f x n = some j
  | 0, i, h, _ => by omega
  | n + 1, i, h, e => by
    rw [pFirst]
    cases hk : pFirst f x n with
    | some j => exact ⟨j, rfl⟩
    | none =>
      have : i = n := by
        rcases Nat.lt_or_ge i n with h2 | h2
        · obtain ⟨j, hj⟩ := pFirst_has h2 e
          rw [hk] at hj; cases hj
        · omega
      subst this
      exact ⟨i, by simp [e]⟩
def pI : Option Nat → Int
  | some i => i
  | none => -1
abbrev pipeV (f : Nat → Nat → Int) (i : Nat) : Value := .agg #[.int .i64 (f i 0), .int .i64 (f i 1), .int .i64 (f i 2), .int .i64 (f i 3), .int .i64 (f i 4)]
set_option maxHeartbeats 1000000 in
theorem leads_any (a b c d e x : Int) (nb : Nat) (w : World) (hz : nb < w.heap.size) (hx : w.cell? ⟨nb, 0, none⟩ = some (.int .i64 x)) :
    Calls Try.prog 115 #[.agg #[.int .i64 a, .int .i64 b, .int .i64 c, .int .i64 d, .int .i64 e], .pointer (some ⟨nb, 0, none⟩)] w fun e w' => e = .returned (.bool (c == x)) ∧ Below w.heap.size w w' := by
  go_enter Try.func115, Try.ntmps115
  go_wp2
  go_ret
  exact ⟨rfl, by go_grown⟩
set_option maxRecDepth 20000 in
set_option maxHeartbeats 4000000 in
theorem indexf_any (n c nb : Nat) (f : Nat → Nat → Int) (x : Int) (A : Option Addr) (w : World) (hR : RI w A 5 n f) (hn : n ≤ 8) (hz : nb < w.heap.size) (hx : w.cell? ⟨nb, 0, none⟩ = some (.int .i64 x)) :
    Calls Try.prog 114 #[.slice A n c, .func (.func 115) #[] #[.pointer (some ⟨nb, 0, none⟩)]] w fun e w' => e = .returned (.int .i64 (pI (pFirst f x n))) ∧ Below w.heap.size w w' := by
  have HR := Lib.hid hR
  have HX := Lib.hid (And.intro hz hx)
  have hni : (n : Int) ≤ 8 := by omega
  clear hR hz hx
  go_enter Try.func114, Try.ntmps114
  go_wp2
  go_loopw [8] (fun i wr => ∃ k : Nat, k ≤ n ∧ i = .int .i64 k ∧ Hid (pFirst f x k = none) ∧ Hid (Below w.heap.size w wr)) (fun i _ => n - (intOf i).toNat)
  case atStart => exact ⟨0, Nat.zero_le _, rfl, Lib.hid rfl, Lib.hid (Below.refl _ _)⟩
  case round =>
    obtain ⟨k, hk, rfl, HK, HB⟩ := hrel
    by_cases hlt : k < n
    · have hlti : (k : Int) < (n : Int) := by omega
      obtain ⟨b, off, rfl, hbz, hc⟩ := (HR.out.below HB.out).at_ hlt
      have c0 := hc 0 (by omega)
      have c1 := hc 1 (by omega)
      have c2 := hc 2 (by omega)
      have c3 := hc 3 (by omega)
      have c4 := hc 4 (by omega)
      rw [Nat.add_zero] at c0
      have HC := Lib.hid (leads_any (f k 0) (f k 1) (f k 2) (f k 3) (f k 4) x nb wr (Nat.lt_of_lt_of_le HX.out.1 HB.out.size) ((HB.out.cell (p := ⟨nb, 0, none⟩) HX.out.1).trans HX.out.2))
      have HLT := Lib.hid hlt
      have hst : pFirst f x (k + 1) = if f k 2 = x then some k else none := by rw [pFirst, HK.out]
      obtain ⟨y, hy⟩ : ∃ y, y = f k 2 := ⟨_, rfl⟩
      rw [← hy] at hst HC c2
      have HST := Lib.hid hst
      clear hc hst hlt hy
      by_cases he : y = x
      · have he2 : (y == x) = true := beq_iff_eq.2 he
        rw [he2] at HC
        have HV : Hid (pI (pFirst f x n) = (k : Int)) := Lib.hid (by
          have h2 := pFirst_mono (n - (k + 1)) (HST.out.trans (if_pos he))
          rw [show k + 1 + (n - (k + 1)) = n by have := HLT.out; omega] at h2
          rw [h2]; rfl)
        clear he he2
        go_wp2_with fail
        refine HC.out.mono ?_
        rintro e w2 ⟨rfl, hb2⟩
        have HB2 := Lib.hid (thru HB.out hb2 HB.out.size)
        clear hb2 c0 c1 c2 c3 c4
        go_wp2
        go_ret
        exact ⟨ret_int HV.out.symm, HB2.out⟩
      · have he2 : (y == x) = false := beq_eq_false_iff_ne.2 he
        rw [he2] at HC
        have HV : Hid (pFirst f x (k + 1) = none) := Lib.hid (by rw [HST.out, if_neg he])
        clear he he2
        go_wp2_with fail
        refine HC.out.mono ?_
        rintro e w2 ⟨rfl, hb2⟩
        have HB2 := Lib.hid (thru HB.out hb2 HB.out.size)
        clear hb2 c0 c1 c2 c3 c4
        go_wp2
        go_roundw
        case rel => exact ⟨k + 1, HLT.out, by go_num, HV, HB2⟩
        case measure => have := HLT.out; simp [intOf]; omega
    · have hlti : decide ((k : Int) < (n : Int)) = false := decide_eq_false (by omega)
      have HV : Hid (pI (pFirst f x n) = -1) := Lib.hid (by rw [← show k = n by omega, HK.out]; rfl)
      go_wp2
      go_ret
      exact ⟨ret_int HV.out.symm, HB.out⟩
set_option maxRecDepth 20000 in
set_option maxHeartbeats 2000000 in
theorem find_any (n c : Nat) (f : Nat → Nat → Int) (x : Int) (A : Option Addr) (w : World) (hR : RI w A 5 n f) (hn : n ≤ 8) :
    Calls Try.prog 104 #[.slice A n c, .int .i64 x] w fun e w' => e = .returned (.int .i64 (pI (pFirst f x n))) ∧ Below w.heap.size w w' := by
  have HC := Lib.hid (indexf_any n c w.heap.size f x A (w.alloc (.cells #[.int .i64 x] 3)) (hR.below (Joins.below_alloc1 _ _)) hn (by simp) (by simp [go_sem]))
  clear hR
  go_enter Try.func104, Try.ntmps104
  go_wp2_with fail
  refine HC.out.mono ?_
  rintro e w2 ⟨rfl, hb2⟩
  go_wp2
  go_ret
  exact ⟨rfl, thru (Joins.below_alloc1 _ _) hb2 (by simp)⟩
end Go.Proofs.Ytljhocdbfbjpiaa
