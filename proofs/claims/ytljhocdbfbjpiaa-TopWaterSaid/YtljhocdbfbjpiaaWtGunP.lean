/-
  The power of the guns that are on.
-/
import Derived.Test.YtljhocdbfbjpiaaWtGun
namespace Go.Proofs.Ytljhocdbfbjpiaa
open Go.RowKit

def kPw (K : KK) : Option Nat → Int
  | some i => K.pw i
  | none => 0
def kPs (K : KK) : Option Nat → List (Int × Int)
  | some i => K.p i
  | none => []
theorem kV_form (K : KK) (o : Option Nat) : ∃ i A c pr, kV K o = .agg #[.int .i64 i, .slice A (kPs K o).length c, .int .i64 (kPw K o), .int .i64 pr] := by
  cases o with
  | none => exact ⟨0, none, 0, 0, rfl⟩
  | some i => exact ⟨K.id i, K.A i, K.c i, K.pr i, rfl⟩
/-- The sum of the powers of the first n guns that are on. -/
def gPow (K : KK) (m : Nat) (g : Nat → Nat → Int) : Nat → Int
  | 0 => 0
  | n + 1 => gPow K m g n + (if g n 4 = 1 then kPw K (kFirst K (g n 3) m) else 0)
theorem gPow_bd {K : KK} {m : Nat} {g : Nat → Nat → Int} (hK : ∀ i, i < m → 0 ≤ K.pw i ∧ K.pw i ≤ 1000000) : ∀ n : Nat, 0 ≤ gPow K m g n ∧ gPow K m g n ≤ n * 1000000
  | 0 => by simp [gPow]
  | n + 1 => by
    obtain ⟨h1, h2⟩ := gPow_bd hK (g := g) n
    have e : ((n + 1 : Nat) : Int) * 1000000 = n * 1000000 + 1000000 := by rw [Int.natCast_add, Int.add_mul]; simp
    have hk : 0 ≤ kPw K (kFirst K (g n 3) m) ∧ kPw K (kFirst K (g n 3) m) ≤ 1000000 := by
      cases h : kFirst K (g n 3) m with
      | none => simp [kPw]
      | some i => exact hK i (kFirst_spec h).1
    rw [e]
    simp only [gPow]
    split <;> omega
set_option maxRecDepth 20000 in
set_option maxHeartbeats 4000000 in
theorem gunpow_any (m n cm cn : Nat) (K : KK) (g : Nat → Nat → Int) (A B : Option Addr) (w : World) (hK : RdK w A m K) (hG : RI w B 8 n g) (hm : m ≤ 1000) (hn : n ≤ 1000) (hp : ∀ i, i < m → 0 ≤ K.pw i ∧ K.pw i ≤ 1000000) :
    Calls Try.prog 18 #[.slice A m cm, .slice B n cn] w fun e w' => e = .returned (.int .i64 (gPow K m g n)) ∧ Below w.heap.size w w' := by
  have HK := Lib.hid hK
  have HG := Lib.hid hG
  have HM := Lib.hid hm
  have HBD := Lib.hid (fun k => gPow_bd (g := g) hp k)
  have hni : (n : Int) ≤ 1000 := by omega
  clear hK hG hm hp
  go_enter Try.func18, Try.ntmps18
  go_wp2
  go_loopw [5, 10] (fun s i wr => ∃ k : Nat, k ≤ n ∧ i = .int .i64 k ∧ s = .int .i64 (gPow K m g k) ∧ Below w.heap.size w wr) (fun _ i _ => n - (intOf i).toNat)
  case atStart => exact ⟨0, Nat.zero_le _, rfl, rfl, Below.refl _ _⟩
  case round =>
    obtain ⟨k, hk, rfl, rfl, hb⟩ := hrel
    have HB := Lib.hid hb
    by_cases hlt : k < n
    · have hlti : (k : Int) < (n : Int) := by omega
      obtain ⟨b, off, rfl, hbz, hc⟩ := (HG.out.below hb).at_ hlt
      have c0 := hc 0 (by omega)
      have c1 := hc 1 (by omega)
      have c2 := hc 2 (by omega)
      have c3 := hc 3 (by omega)
      have c4 := hc 4 (by omega)
      have c5 := hc 5 (by omega)
      have c6 := hc 6 (by omega)
      have c7 := hc 7 (by omega)
      rw [Nat.add_zero] at c0
      obtain ⟨z3, hz3⟩ : ∃ z, z = g k 3 := ⟨_, rfl⟩
      obtain ⟨z4, hz4⟩ : ∃ z, z = g k 4 := ⟨_, rfl⟩
      rw [← hz3] at c3
      rw [← hz4] at c4
      have hbd := HBD.out k
      have hbd1 := HBD.out (k + 1)
      have hst : gPow K m g (k + 1) = gPow K m g k + (if z4 = 1 then kPw K (kFirst K z3 m) else 0) := by rw [hz3, hz4]; rfl
      rw [hst] at hbd1
      obtain ⟨S, hS⟩ : ∃ S, S = gPow K m g k := ⟨_, rfl⟩
      rw [← hS] at hbd hbd1 hst ⊢
      have HST := Lib.hid hst
      have HLT := Lib.hid hlt
      have hkM : (k : Int) * 1000000 ≤ 1000000000 := by omega
      have hkM1 : ((k + 1 : Nat) : Int) * 1000000 ≤ 1000000000 := by omega
      have HNB := Lib.hid (thru hb (Joins.below_alloc1 wr (.cells #[.int .i64 (g k 0), .int .i64 (g k 1), .int .i64 (g k 2), .int .i64 z3, .int .i64 z4, .int .i64 (g k 5), .int .i64 (g k 6), .int .i64 (g k 7)] 51)) hb.size)
      clear hb hc hst hS hlt hz3 hz4
      by_cases hon : z4 = 1
      · have hon2 : (z4 == 1) = true := beq_iff_eq.2 hon
        rw [if_pos hon] at hbd1
        obtain ⟨i', A', c', pr', hkv⟩ := kV_form K (kFirst K z3 m)
        have hC := kind_any m cm K z3 A _ (HK.out.below HNB.out) HM.out
        rw [hkv] at hC
        obtain ⟨P, hP⟩ : ∃ P, P = kPw K (kFirst K z3 m) := ⟨_, rfl⟩
        rw [← hP] at hC hbd1
        have HV : Hid (gPow K m g (k + 1) = S + P) := Lib.hid (by rw [HST.out, if_pos hon, hP])
        have e1 : IntKind.i64.wrap (S + P) = S + P := IntWalk.i64_in _ (by omega)
        have HC := Lib.hid hC
        clear hC hkv hP hon hbd hbd1 hkM hkM1
        go_wp2_with fail
        refine HC.out.mono ?_
        rintro e w2 ⟨rfl, hb2⟩
        have HB2 := Lib.hid (thru HNB.out hb2 HNB.out.size)
        clear hb2 HC
        go_wp2
        apply_assumption
        go_wp2
        go_roundw
        case rel => exact ⟨k + 1, HLT.out, by go_num, by rw [HV.out], HB2.out⟩
        case measure => have := HLT.out; simp [intOf]; omega
      · have hon2 : (z4 == 1) = false := beq_eq_false_iff_ne.2 hon
        have HV : Hid (gPow K m g (k + 1) = S) := Lib.hid (by rw [HST.out, if_neg hon]; omega)
        clear hon hbd hbd1 hkM hkM1
        go_wp2
        go_roundw
        case rel => exact ⟨k + 1, HLT.out, by go_num, by rw [HV.out], HNB.out⟩
        case measure => have := HLT.out; simp [intOf]; omega
    · have hlti : decide ((k : Int) < (n : Int)) = false := decide_eq_false (by omega)
      have hke : Hid (gPow K m g k = gPow K m g n) := Lib.hid (by rw [show k = n by omega])
      clear hb
      go_wp2
      go_ret
      exact ⟨ret_int hke.out, HB.out⟩
end Go.Proofs.Ytljhocdbfbjpiaa
