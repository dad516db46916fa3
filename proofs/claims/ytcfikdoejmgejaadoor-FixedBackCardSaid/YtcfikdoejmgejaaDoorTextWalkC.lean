/-
  The walk of the decimal notation.
-/
import Derived.Test.YtcfikdoejmgejaaDoorTextWalkB
namespace Go.Proofs.YtcfikdoejmgejaaDoor
open Go.RowKit

/-- A string that reads as these bytes. -/
def StrP (l : List UInt8) (w : World) (e : Ending) (w' : World) : Prop := ∃ t : ByteArray, e = .returned (.string t) ∧ t.data.toList = l ∧ Below w.heap.size w w'
theorem StrP.size {t : ByteArray} {l : List UInt8} (h : t.data.toList = l) : t.size = l.length := by rw [← h]; simp
theorem fmt_ex (u : Nat) (w : World) (hu : u < 18446744073709551616) (hE : Env w) :
    Calls Tryd.prog 49 #[.int .u64 (u : Int), .int .i64 10] w (StrP (Lib.decDigits u) w) :=
  (fmt_any u w hu hE).mono fun _ _ ⟨h, h'⟩ => ⟨_, h, rfl, h'⟩
theorem repeatL_one (c : Nat) (b : UInt8) : Lib.repeatL [b] c = List.replicate c b := by
  induction c with
  | zero => rfl
  | succ c ih => rw [Lib.repeatL, ih]; rfl
theorem rep_ex (c : Nat) (w : World) (hc : c ≤ 1000) :
    Calls Tryd.prog 46 #[.string ⟨#[48]⟩, .int .i64 (c : Int)] w (StrP (List.replicate c 48) w) :=
  (Tryd.strings_Repeat ⟨#[48]⟩ c w (by omega) (by show 1 * c ≤ _; omega)).mono fun _ _ ⟨h, h'⟩ => ⟨_, h, repeatL_one c 48, h'⟩

def printL (x : Int) : List UInt8 := (if x < 0 then [45] else []) ++ (Lib.decDigits (x.natAbs / 1000) ++ (46 :: (List.replicate (3 - Lib.nDigits (x.natAbs % 1000)) 48 ++ Lib.decDigits (x.natAbs % 1000))))
theorem nDigits_3 (u : Nat) (h : u < 1000) : Lib.nDigits u ≤ 3 ∧ 1 ≤ Lib.nDigits u := by
  by_cases h1 : u < 10
  · rw [Lib.nDigits_small h1]; omega
  · rw [Lib.nDigits_big h1]
    by_cases h2 : u / 10 < 10
    · rw [Lib.nDigits_small h2]; omega
    · rw [Lib.nDigits_big h2, Lib.nDigits_small (by omega)]; omega

set_option maxHeartbeats 2000000 in
theorem print_any (x : Int) (w : World) (h1 : -9223372036854775808 ≤ x) (h2 : x ≤ 9223372036854775807) (hE : Env w) :
    Calls Tryd.prog 27 #[.int .i64 x] w (StrP (printL x) w) := by
  have hpl : printL x = (if x < 0 then [45] else []) ++ (Lib.decDigits (x.natAbs / 1000) ++ (46 :: (List.replicate (3 - Lib.nDigits (x.natAbs % 1000)) 48 ++ Lib.decDigits (x.natAbs % 1000)))) := rfl
  have HPL := Lib.hid hpl
  have hm : x.natAbs ≤ 9223372036854775808 := by omega
  have HM := Lib.hid hm
  clear hpl hm
  have HS1 := Lib.hid fun (W : World) (e : Env W) => fmt_ex (x.natAbs % 1000) W (by have := HM.out; omega) e
  have HS2 := Lib.hid fun (W : World) (e : Env W) => fmt_ex (x.natAbs / 1000) W (by have := HM.out; omega) e
  have h3 := nDigits_3 (x.natAbs % 1000) (by omega)
  obtain ⟨d1, d2⟩ := h3
  have HL : Hid ((Lib.decDigits (x.natAbs % 1000)).length = Lib.nDigits (x.natAbs % 1000)) := Lib.hid (Lib.decDigits_length _)
  have HL2 : Hid ((Lib.decDigits (x.natAbs / 1000)).length ≤ 20) := Lib.hid (by rw [Lib.decDigits_length]; exact Lib.nDigits_le20 _ (by have := HM.out; omega))
  by_cases hn : x < 0
  · have hu : IntKind.u64.wrap (-IntKind.u64.wrap x) = (x.natAbs : Int) := by rw [IntKind.wrap_u64, IntKind.wrap_u64]; omega
    have hr : (x.natAbs : Int) % 1000 = ((x.natAbs % 1000 : Nat) : Int) := by omega
    have hq : (x.natAbs : Int) / 1000 = ((x.natAbs / 1000 : Nat) : Int) := by omega
    have hwv : IntKind.u64.wrap ((x.natAbs / 1000 : Nat) : Int) = ((x.natAbs / 1000 : Nat) : Int) := Mul64.wrapN _ (by have := HM.out; omega)
    have HP2 := Lib.hid (HPL.out.trans (by rw [if_pos hn]))
    clear HPL h1 h2
    generalize x.natAbs % 1000 = u at *
    generalize x.natAbs / 1000 = v at *
    go_enter Tryd.func27, Tryd.ntmps27
    go_wp2_with fail
    refine (HS1.out _ hE).mono ?_
    rintro e w1 ⟨t1, rfl, ht1, hb1⟩
    have HT1 := Lib.hid ht1
    have E1 := Lib.hid (hE.below hb1)
    have hz1 : (t1.size : Int) = (Lib.nDigits u : Int) := by rw [StrP.size ht1, HL.out]
    have hz2 : (3 : Int) - (t1.size : Int) = ((3 - Lib.nDigits u : Nat) : Int) := by omega
    have hz3 : t1.size ≤ 3 := by omega
    have HR := Lib.hid fun W => rep_ex (3 - Lib.nDigits u) W (by omega)
    have HB1 := Lib.hid hb1
    clear ht1 hz1 hb1
    go_wp2_with fail
    refine (HS2.out _ E1.out).mono ?_
    rintro e w2 ⟨t2, rfl, ht2, hb2⟩
    have HT2 := Lib.hid ht2
    have hz4 : t2.size ≤ 20 := by rw [StrP.size ht2]; exact HL2.out
    have HB2 := Lib.hid hb2
    clear ht2 hb2
    go_wp2_with fail
    refine (HR.out _).mono ?_
    rintro e w3 ⟨t3, rfl, ht3, hb3⟩
    have HT3 := Lib.hid ht3
    have hz5 : t3.size ≤ 3 := by rw [StrP.size ht3]; simp
    have HB3 := Lib.hid hb3
    clear ht3 hb3
    go_wp2
    go_ret
    exact ⟨_, rfl, by rw [HP2.out, ← HT1.out, ← HT2.out, ← HT3.out]; simp, HB1.out.trans ((HB2.out.trans (HB3.out.mono HB2.out.size)).mono HB1.out.size)⟩
  · have hu : IntKind.u64.wrap x = (x.natAbs : Int) := by rw [IntKind.wrap_u64]; omega
    have hxx : x = (x.natAbs : Int) := by omega
    have HXX := Lib.hid hxx
    have h0 : ¬ ((x.natAbs : Int) < 0) := by omega
    have hr : (x.natAbs : Int) % 1000 = ((x.natAbs % 1000 : Nat) : Int) := by omega
    have hq : (x.natAbs : Int) / 1000 = ((x.natAbs / 1000 : Nat) : Int) := by omega
    have hwv : IntKind.u64.wrap ((x.natAbs / 1000 : Nat) : Int) = ((x.natAbs / 1000 : Nat) : Int) := Mul64.wrapN _ (by have := HM.out; omega)
    have HP2 := Lib.hid (HPL.out.trans (by rw [if_neg hn]))
    clear HPL h1 h2 hxx
    generalize x.natAbs % 1000 = u at *
    generalize x.natAbs / 1000 = v at *
    go_enter Tryd.func27, Tryd.ntmps27
    go_wp2_with fail
    refine (HS1.out _ hE).mono ?_
    rintro e w1 ⟨t1, rfl, ht1, hb1⟩
    have HT1 := Lib.hid ht1
    have E1 := Lib.hid (hE.below hb1)
    have hz1 : (t1.size : Int) = (Lib.nDigits u : Int) := by rw [StrP.size ht1, HL.out]
    have hz2 : (3 : Int) - (t1.size : Int) = ((3 - Lib.nDigits u : Nat) : Int) := by omega
    have hz3 : t1.size ≤ 3 := by omega
    have HR := Lib.hid fun W => rep_ex (3 - Lib.nDigits u) W (by omega)
    have HB1 := Lib.hid hb1
    clear ht1 hz1 hb1
    go_wp2_with fail
    refine (HS2.out _ E1.out).mono ?_
    rintro e w2 ⟨t2, rfl, ht2, hb2⟩
    have HT2 := Lib.hid ht2
    have hz4 : t2.size ≤ 20 := by rw [StrP.size ht2]; exact HL2.out
    have HB2 := Lib.hid hb2
    clear ht2 hb2
    go_wp2_with fail
    refine (HR.out _).mono ?_
    rintro e w3 ⟨t3, rfl, ht3, hb3⟩
    have HT3 := Lib.hid ht3
    have hz5 : t3.size ≤ 3 := by rw [StrP.size ht3]; simp
    have HB3 := Lib.hid hb3
    clear ht3 hb3
    go_wp2
    go_ret
    exact ⟨_, rfl, by rw [HP2.out, ← HT1.out, ← HT2.out, ← HT3.out]; simp, HB1.out.trans ((HB2.out.trans (HB3.out.mono HB2.out.size)).mono HB1.out.size)⟩
end Go.Proofs.YtcfikdoejmgejaaDoor
