/-
  The walks of the laws that hold prices and days against the reference.
-/
import Derived.Test.YtlhbpnealboagaaPriceLawA
namespace Go.Proofs.Ytlhbpnealboagaa
open Go.RowKit

set_option maxHeartbeats 2000000 in
theorem lawQuotes (l m s : Int) (dem ahe : List (Int × Int)) (base b a : Int) (A : Option Addr) (c : Nat) (A' : Option Addr) (c' : Nat) (w : World) (hR : RdP w A dem) (hR' : RdP w A' ahe) :
    Calls Try.prog 5 #[rv l m s A dem.length c A' ahe.length c', .int .i64 base, .int .i64 b, .int .i64 a] w fun e w' => e = .returned (.bool true) ∧ Below w.heap.size w w' := by
  have HR := Lib.hid hR
  have HR' := Lib.hid hR'
  clear hR hR'
  by_cases hs : dem.length ≤ 100 ∧ ahe.length ≤ 100
  · have HS := Lib.hid hs
    clear hs
    obtain ⟨f1, hf1⟩ : ∃ f, f = (Pri.quote ⟨l, m, s, dem, ahe⟩ base b a).1 := ⟨_, rfl⟩
    obtain ⟨f2, hf2⟩ : ∃ f, f = (Pri.quote ⟨l, m, s, dem, ahe⟩ base b a).2 := ⟨_, rfl⟩
    have F1 := Lib.hid hf1
    have F2 := Lib.hid hf2
    clear hf1 hf2
    go_enter Try.func5, Try.ntmps5
    go_wp2_with fail
    refine (alive_any _).mono ?_
    rintro e w1 ⟨rfl, hb1⟩
    have R1 := Lib.hid ((HR.out.below (by go_grown)).below hb1)
    have R1' := Lib.hid ((HR'.out.below (by go_grown)).below hb1)
    obtain ⟨hc1, hf1⟩ := bcell hb1; have z1 := hb1.size; (try simp at z1); have g1 : Below w.heap.size w w1 := thru (by go_grown) hb1 (by first | omega | (simp; done) | (simp; omega)); (try have s1 : w.heap.size < w1.heap.size := by omega); (try have t1_a1 : w.heap.size < w1.heap.size + 1 := by omega); (try have t1_a2 : w.heap.size < w1.heap.size + 1 + 1 := by omega)
    go_wp2_with fail
    refine (few_yes _ _ _ _ _ _ _ _ _ _ HS.out).mono ?_
    rintro e w2 ⟨rfl, rfl⟩
    go_wp2_with fail
    refine (quote_any l m s dem ahe A c A' c' base b a _ (R1.out.below (by go_grown)) (R1'.out.below (by go_grown)) HS.out.1 HS.out.2).mono ?_
    rw [← F1.out, ← F2.out]
    rintro e w2 ⟨rfl, hb2⟩
    have R2 := Lib.hid ((R1.out.below (by go_grown)).below hb2)
    have R2' := Lib.hid ((R1'.out.below (by go_grown)).below hb2)
    obtain ⟨hc2, hf2⟩ := bcell hb2; have z2 := hb2.size; (try simp at z2); have g2 : Below w.heap.size w w2 := thru (by go_grown) hb2 (by first | omega | (simp; done) | (simp; omega)); (try have s2 : w.heap.size < w2.heap.size := by omega); (try have t2_a1 : w.heap.size < w2.heap.size + 1 := by omega); (try have t1_2_a1 : w1.heap.size < w2.heap.size + 1 := by omega); (try have t2_a2 : w.heap.size < w2.heap.size + 1 + 1 := by omega); (try have t1_2_a2 : w1.heap.size < w2.heap.size + 1 + 1 := by omega); (try have s1_2 : w1.heap.size < w2.heap.size := by omega)
    go_wp2_with fail
    refine (rquote_any l m s dem ahe A c A' c' base b a _ R2.out R2'.out HS.out.1 HS.out.2).mono ?_
    rw [← F1.out, ← F2.out]
    rintro e w3 ⟨rfl, hb3⟩
    obtain ⟨hc3, hf3⟩ := bcell hb3; have z3 := hb3.size; (try simp at z3); have g3 : Below w.heap.size w w3 := thru (by go_grown) hb3 (by first | omega | (simp; done) | (simp; omega)); (try have s3 : w.heap.size < w3.heap.size := by omega); (try have t3_a1 : w.heap.size < w3.heap.size + 1 := by omega); (try have t1_3_a1 : w1.heap.size < w3.heap.size + 1 := by omega); (try have t2_3_a1 : w2.heap.size < w3.heap.size + 1 := by omega); (try have t3_a2 : w.heap.size < w3.heap.size + 1 + 1 := by omega); (try have t1_3_a2 : w1.heap.size < w3.heap.size + 1 + 1 := by omega); (try have t2_3_a2 : w2.heap.size < w3.heap.size + 1 + 1 := by omega); (try have s1_3 : w1.heap.size < w3.heap.size := by omega); (try have s2_3 : w2.heap.size < w3.heap.size := by omega)
    go_wp2
    go_ret
    exact ⟨rfl, by go_grown⟩
  · have HS := Lib.hid hs
    clear hs
    go_enter Try.func5, Try.ntmps5
    go_wp2_with fail
    refine (alive_any _).mono ?_
    rintro e w1 ⟨rfl, hb1⟩
    obtain ⟨hc1, hf1⟩ := bcell hb1; have z1 := hb1.size; (try simp at z1); have g1 : Below w.heap.size w w1 := thru (by go_grown) hb1 (by first | omega | (simp; done) | (simp; omega)); (try have s1 : w.heap.size < w1.heap.size := by omega); (try have t1_a1 : w.heap.size < w1.heap.size + 1 := by omega); (try have t1_a2 : w.heap.size < w1.heap.size + 1 + 1 := by omega)
    go_wp2_with fail
    refine (few_no _ _ _ _ _ _ _ _ _ _ HS.out).mono ?_
    rintro e w2 ⟨rfl, rfl⟩
    go_wp2
    go_ret
    exact ⟨rfl, by go_grown⟩

set_option maxHeartbeats 2000000 in
theorem lawDays (l m s : Int) (dem ahe : List (Int × Int)) (base first : Int) (bk : List Int) (A : Option Addr) (c : Nat) (A' : Option Addr) (c' : Nat) (B : Option Addr) (d : Nat) (w : World) (hR : RdP w A dem) (hR' : RdP w A' ahe) (hB : Rd w B bk) (hf1 : -9223372036854775808 ≤ first) (hf2 : first ≤ 9223372036854775807) :
    Calls Try.prog 6 #[rv l m s A dem.length c A' ahe.length c', .int .i64 base, .int .i64 first, .slice B bk.length d] w fun e w' => e = .returned (.bool true) ∧ Below w.heap.size w w' := by
  have HR := Lib.hid hR
  have HR' := Lib.hid hR'
  have HB := Lib.hid hB
  have HFF := Lib.hid (And.intro hf1 hf2)
  clear hR hR' hB hf1 hf2
  by_cases hs : dem.length ≤ 100 ∧ ahe.length ≤ 100
  · have HS := Lib.hid hs
    clear hs
    by_cases hbk : 120 < bk.length
    · go_enter Try.func6, Try.ntmps6
      go_wp2_with fail
      refine (alive_any _).mono ?_
      rintro e w1 ⟨rfl, hb1⟩
      obtain ⟨hc1, hf1⟩ := bcell hb1; have z1 := hb1.size; (try simp at z1); have g1 : Below w.heap.size w w1 := thru (by go_grown) hb1 (by first | omega | (simp; done) | (simp; omega)); (try have s1 : w.heap.size < w1.heap.size := by omega); (try have t1_a1 : w.heap.size < w1.heap.size + 1 := by omega); (try have t1_a2 : w.heap.size < w1.heap.size + 1 + 1 := by omega)
      go_wp2_with fail
      refine (few_yes _ _ _ _ _ _ _ _ _ _ HS.out).mono ?_
      rintro e w2 ⟨rfl, rfl⟩
      go_wp2
      go_ret
      exact ⟨rfl, by go_grown⟩
    obtain ⟨f1, hf1⟩ : ∃ f, f = (Pri.cheap ⟨l, m, s, dem, ahe⟩ base first bk).1 := ⟨_, rfl⟩
    obtain ⟨f2, hf2⟩ : ∃ f, f = (Pri.cheap ⟨l, m, s, dem, ahe⟩ base first bk).2.1 := ⟨_, rfl⟩
    obtain ⟨f3, hf3⟩ : ∃ f, f = (Pri.cheap ⟨l, m, s, dem, ahe⟩ base first bk).2.2 := ⟨_, rfl⟩
    have F1 := Lib.hid hf1
    have F2 := Lib.hid hf2
    have F3 := Lib.hid hf3
    clear hf1 hf2 hf3
    go_enter Try.func6, Try.ntmps6
    go_wp2_with fail
    refine (alive_any _).mono ?_
    rintro e w1 ⟨rfl, hb1⟩
    have B1 := Lib.hid ((HB.out.below (by go_grown)).below hb1)
    have R1 := Lib.hid ((HR.out.below (by go_grown)).below hb1)
    have R1' := Lib.hid ((HR'.out.below (by go_grown)).below hb1)
    obtain ⟨hc1, hf1⟩ := bcell hb1; have z1 := hb1.size; (try simp at z1); have g1 : Below w.heap.size w w1 := thru (by go_grown) hb1 (by first | omega | (simp; done) | (simp; omega)); (try have s1 : w.heap.size < w1.heap.size := by omega); (try have t1_a1 : w.heap.size < w1.heap.size + 1 := by omega); (try have t1_a2 : w.heap.size < w1.heap.size + 1 + 1 := by omega)
    go_wp2_with fail
    refine (few_yes _ _ _ _ _ _ _ _ _ _ HS.out).mono ?_
    rintro e w2 ⟨rfl, rfl⟩
    go_wp2_with fail
    refine (cheap_any l m s dem ahe A c A' c' base first bk B d _ (R1.out.below (by go_grown)) (R1'.out.below (by go_grown)) HS.out.1 HS.out.2 (B1.out.below (by go_grown)) HFF.out.1 HFF.out.2).mono ?_
    rw [← F1.out, ← F2.out, ← F3.out]
    rintro e w2 ⟨rfl, hb2⟩
    have B2 := Lib.hid ((B1.out.below (by go_grown)).below hb2)
    have R2 := Lib.hid ((R1.out.below (by go_grown)).below hb2)
    have R2' := Lib.hid ((R1'.out.below (by go_grown)).below hb2)
    obtain ⟨hc2, hf2⟩ := bcell hb2; have z2 := hb2.size; (try simp at z2); have g2 : Below w.heap.size w w2 := thru (by go_grown) hb2 (by first | omega | (simp; done) | (simp; omega)); (try have s2 : w.heap.size < w2.heap.size := by omega); (try have t2_a1 : w.heap.size < w2.heap.size + 1 := by omega); (try have t1_2_a1 : w1.heap.size < w2.heap.size + 1 := by omega); (try have t2_a2 : w.heap.size < w2.heap.size + 1 + 1 := by omega); (try have t1_2_a2 : w1.heap.size < w2.heap.size + 1 + 1 := by omega); (try have s1_2 : w1.heap.size < w2.heap.size := by omega)
    go_wp2_with fail
    refine (rcheap_any l m s dem ahe A c A' c' base first bk B d _ R2.out R2'.out HS.out.1 HS.out.2 B2.out HFF.out.1 HFF.out.2).mono ?_
    rw [← F1.out, ← F2.out, ← F3.out]
    rintro e w3 ⟨rfl, hb3⟩
    obtain ⟨hc3, hf3⟩ := bcell hb3; have z3 := hb3.size; (try simp at z3); have g3 : Below w.heap.size w w3 := thru (by go_grown) hb3 (by first | omega | (simp; done) | (simp; omega)); (try have s3 : w.heap.size < w3.heap.size := by omega); (try have t3_a1 : w.heap.size < w3.heap.size + 1 := by omega); (try have t1_3_a1 : w1.heap.size < w3.heap.size + 1 := by omega); (try have t2_3_a1 : w2.heap.size < w3.heap.size + 1 := by omega); (try have t3_a2 : w.heap.size < w3.heap.size + 1 + 1 := by omega); (try have t1_3_a2 : w1.heap.size < w3.heap.size + 1 + 1 := by omega); (try have t2_3_a2 : w2.heap.size < w3.heap.size + 1 + 1 := by omega); (try have s1_3 : w1.heap.size < w3.heap.size := by omega); (try have s2_3 : w2.heap.size < w3.heap.size := by omega)
    go_wp2
    go_ret
    exact ⟨rfl, by go_grown⟩
  · have HS := Lib.hid hs
    clear hs
    go_enter Try.func6, Try.ntmps6
    go_wp2_with fail
    refine (alive_any _).mono ?_
    rintro e w1 ⟨rfl, hb1⟩
    obtain ⟨hc1, hf1⟩ := bcell hb1; have z1 := hb1.size; (try simp at z1); have g1 : Below w.heap.size w w1 := thru (by go_grown) hb1 (by first | omega | (simp; done) | (simp; omega)); (try have s1 : w.heap.size < w1.heap.size := by omega); (try have t1_a1 : w.heap.size < w1.heap.size + 1 := by omega); (try have t1_a2 : w.heap.size < w1.heap.size + 1 + 1 := by omega)
    go_wp2_with fail
    refine (few_no _ _ _ _ _ _ _ _ _ _ HS.out).mono ?_
    rintro e w2 ⟨rfl, rfl⟩
    go_wp2
    go_ret
    exact ⟨rfl, by go_grown⟩
end Go.Proofs.Ytlhbpnealboagaa
