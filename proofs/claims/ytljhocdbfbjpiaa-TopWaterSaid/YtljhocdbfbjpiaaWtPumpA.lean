/-
  The sums over the pumps that were chosen; the comparison of two lists.
-/
import Derived.Test.YtljhocdbfbjpiaaIntRows
import Derived.Test.YtljhocdbfbjpiaaSliceHas
namespace Go.Proofs.Ytljhocdbfbjpiaa
open Go.RowKit

/-- The sum of the field col of the elements that were chosen. -/
def chS (f : Nat → Nat → Int) (col : Nat) (ch : List Int) : Nat → Int
  | 0 => 0
  | n + 1 => chS f col ch n + (if (n : Int) ∈ ch then f n col else 0)
theorem chS_bd {f : Nat → Nat → Int} {col : Nat} {ch : List Int} {M : Int} : ∀ {n : Nat}, (∀ i, i < n → 0 ≤ f i col ∧ f i col ≤ M) → 0 ≤ chS f col ch n ∧ chS f col ch n ≤ n * M
  | 0, _ => by simp [chS]
  | n + 1, h => by
    obtain ⟨h1, h2⟩ := chS_bd (ch := ch) (n := n) fun i hi => h i (by omega)
    have h3 := h n (by omega)
    have e : ((n + 1 : Nat) : Int) * M = n * M + M := by rw [Int.natCast_add, Int.add_mul]; simp
    rw [e]
    simp only [chS]
    split <;> omega

set_option maxRecDepth 20000 in
set_option maxHeartbeats 2000000 in
theorem pflow_any (n c m cc : Nat) (f : Nat → Nat → Int) (ch : List Int) (A B : Option Addr) (w : World) (hR : RI w A 3 n f) (hB : Rd w B ch) (hn : n ≤ 8) (hl : ch.length ≤ 100) (hm : m = ch.length) (hf : ∀ i, i < n → 0 ≤ f i 1 ∧ f i 1 ≤ 100000000) :
    Calls Try.prog 16 #[.slice A n c, .slice B m cc] w fun e w' => e = .returned (.int .i64 (chS f 1 ch n)) ∧ Below w.heap.size w w' := by
  subst hm
  have HR := Lib.hid hR
  have HBR := Lib.hid hB
  have HF := Lib.hid hf
  have HN := Lib.hid hn
  have HLL := Lib.hid hl
  have hni : (n : Int) ≤ 8 := by omega
  clear hR hB hf hn hl
  go_enter Try.func16, Try.ntmps16
  go_wp2
  go_loopw [5, 10] (fun s i wr => ∃ k : Nat, k ≤ n ∧ i = .int .i64 k ∧ s = .int .i64 (chS f 1 ch k) ∧ Below w.heap.size w wr) (fun _ i _ => n - (intOf i).toNat)
  case atStart => exact ⟨0, Nat.zero_le _, rfl, rfl, Below.refl _ _⟩
  case round =>
    obtain ⟨k, hk, rfl, rfl, hb⟩ := hrel
    have HB := Lib.hid hb
    by_cases hlt : k < n
    · have hlti : (k : Int) < (n : Int) := by omega
      obtain ⟨b, off, rfl, hbz, hc⟩ := (HR.out.below hb).at_ hlt
      have c0 := hc 0 (by omega)
      have c1 := hc 1 (by omega)
      have c2 := hc 2 (by omega)
      rw [Nat.add_zero] at c0
      have hbd := chS_bd (ch := ch) (n := k) fun i hi => HF.out i (by omega)
      have hfk := HF.out k hlt
      obtain ⟨S, hS⟩ : ∃ S, S = chS f 1 ch k := ⟨_, rfl⟩
      rw [← hS] at hbd ⊢
      obtain ⟨x, hx⟩ : ∃ x, x = f k 1 := ⟨_, rfl⟩
      rw [← hx] at c1 hfk
      have hnx : chS f 1 ch (k + 1) = S + (if (k : Int) ∈ ch then x else 0) := by rw [hS, hx]; rfl
      have HNX := Lib.hid hnx
      have HLT := Lib.hid hlt
      have hkM : (k : Int) * 100000000 ≤ 800000000 := by omega
      have e1 : IntKind.i64.wrap (S + x) = S + x := IntWalk.i64_in _ (by omega)
      have hC := contains_any ch k B cc (wr.alloc (.cells #[.int .i64 (f k 0), .int .i64 x, .int .i64 (f k 2)] 94)) HLL.out ((HBR.out.below hb).below (Joins.below_alloc1 _ _))
      have HNB := Lib.hid (thru hb (Joins.below_alloc1 wr (.cells #[.int .i64 (f k 0), .int .i64 x, .int .i64 (f k 2)] 94)) hb.size)
      clear hb hc hnx hS hx hlt hbd hfk hkM
      by_cases hin : (k : Int) ∈ ch
      · rw [decide_eq_true hin] at hC
        have HC := Lib.hid hC
        have HV : Hid (chS f 1 ch (k + 1) = S + x) := Lib.hid (by rw [HNX.out, if_pos hin])
        clear hC hin
        go_wp2_with fail
        refine HC.out.mono ?_
        rintro e w2 ⟨rfl, rfl⟩
        clear HC
        go_wp2
        go_roundw
        case rel => exact ⟨k + 1, HLT.out, by go_num, by rw [HV.out], HNB.out⟩
        case measure => have := HLT.out; simp [intOf]; omega
      · rw [decide_eq_false hin] at hC
        have HC := Lib.hid hC
        have HV : Hid (chS f 1 ch (k + 1) = S) := Lib.hid (by rw [HNX.out, if_neg hin]; omega)
        clear hC hin
        go_wp2_with fail
        refine HC.out.mono ?_
        rintro e w2 ⟨rfl, rfl⟩
        clear HC
        go_wp2
        go_roundw
        case rel => exact ⟨k + 1, HLT.out, by go_num, by rw [HV.out], HNB.out⟩
        case measure => have := HLT.out; simp [intOf]; omega
    · have hlti : decide ((k : Int) < (n : Int)) = false := decide_eq_false (by omega)
      have hke : Hid (chS f 1 ch k = chS f 1 ch n) := Lib.hid (by rw [show k = n by omega])
      clear hb
      go_wp2
      go_ret
      exact ⟨ret_int hke.out, HB.out⟩
set_option maxRecDepth 20000 in
set_option maxHeartbeats 2000000 in
theorem ppow_any (n c m cc : Nat) (f : Nat → Nat → Int) (ch : List Int) (A B : Option Addr) (w : World) (hR : RI w A 3 n f) (hB : Rd w B ch) (hn : n ≤ 8) (hl : ch.length ≤ 100) (hm : m = ch.length) (hf : ∀ i, i < n → 0 ≤ f i 2 ∧ f i 2 ≤ 100000000) :
    Calls Try.prog 17 #[.slice A n c, .slice B m cc] w fun e w' => e = .returned (.int .i64 (chS f 2 ch n)) ∧ Below w.heap.size w w' := by
  subst hm
  have HR := Lib.hid hR
  have HBR := Lib.hid hB
  have HF := Lib.hid hf
  have HN := Lib.hid hn
  have HLL := Lib.hid hl
  have hni : (n : Int) ≤ 8 := by omega
  clear hR hB hf hn hl
  go_enter Try.func17, Try.ntmps17
  go_wp2
  go_loopw [5, 10] (fun s i wr => ∃ k : Nat, k ≤ n ∧ i = .int .i64 k ∧ s = .int .i64 (chS f 2 ch k) ∧ Below w.heap.size w wr) (fun _ i _ => n - (intOf i).toNat)
  case atStart => exact ⟨0, Nat.zero_le _, rfl, rfl, Below.refl _ _⟩
  case round =>
    obtain ⟨k, hk, rfl, rfl, hb⟩ := hrel
    have HB := Lib.hid hb
    by_cases hlt : k < n
    · have hlti : (k : Int) < (n : Int) := by omega
      obtain ⟨b, off, rfl, hbz, hc⟩ := (HR.out.below hb).at_ hlt
      have c0 := hc 0 (by omega)
      have c1 := hc 1 (by omega)
      have c2 := hc 2 (by omega)
      rw [Nat.add_zero] at c0
      have hbd := chS_bd (ch := ch) (n := k) fun i hi => HF.out i (by omega)
      have hfk := HF.out k hlt
      obtain ⟨S, hS⟩ : ∃ S, S = chS f 2 ch k := ⟨_, rfl⟩
      rw [← hS] at hbd ⊢
      obtain ⟨x, hx⟩ : ∃ x, x = f k 2 := ⟨_, rfl⟩
      rw [← hx] at c2 hfk
      have hnx : chS f 2 ch (k + 1) = S + (if (k : Int) ∈ ch then x else 0) := by rw [hS, hx]; rfl
      have HNX := Lib.hid hnx
      have HLT := Lib.hid hlt
      have hkM : (k : Int) * 100000000 ≤ 800000000 := by omega
      have e1 : IntKind.i64.wrap (S + x) = S + x := IntWalk.i64_in _ (by omega)
      have hC := contains_any ch k B cc (wr.alloc (.cells #[.int .i64 (f k 0), .int .i64 (f k 1), .int .i64 x] 94)) HLL.out ((HBR.out.below hb).below (Joins.below_alloc1 _ _))
      have HNB := Lib.hid (thru hb (Joins.below_alloc1 wr (.cells #[.int .i64 (f k 0), .int .i64 (f k 1), .int .i64 x] 94)) hb.size)
      clear hb hc hnx hS hx hlt hbd hfk hkM
      by_cases hin : (k : Int) ∈ ch
      · rw [decide_eq_true hin] at hC
        have HC := Lib.hid hC
        have HV : Hid (chS f 2 ch (k + 1) = S + x) := Lib.hid (by rw [HNX.out, if_pos hin])
        clear hC hin
        go_wp2_with fail
        refine HC.out.mono ?_
        rintro e w2 ⟨rfl, rfl⟩
        clear HC
        go_wp2
        go_roundw
        case rel => exact ⟨k + 1, HLT.out, by go_num, by rw [HV.out], HNB.out⟩
        case measure => have := HLT.out; simp [intOf]; omega
      · rw [decide_eq_false hin] at hC
        have HC := Lib.hid hC
        have HV : Hid (chS f 2 ch (k + 1) = S) := Lib.hid (by rw [HNX.out, if_neg hin]; omega)
        clear hC hin
        go_wp2_with fail
        refine HC.out.mono ?_
        rintro e w2 ⟨rfl, rfl⟩
        clear HC
        go_wp2
        go_roundw
        case rel => exact ⟨k + 1, HLT.out, by go_num, by rw [HV.out], HNB.out⟩
        case measure => have := HLT.out; simp [intOf]; omega
    · have hlti : decide ((k : Int) < (n : Int)) = false := decide_eq_false (by omega)
      have hke : Hid (chS f 2 ch k = chS f 2 ch n) := Lib.hid (by rw [show k = n by omega])
      clear hb
      go_wp2
      go_ret
      exact ⟨ret_int hke.out, HB.out⟩
end Go.Proofs.Ytljhocdbfbjpiaa
