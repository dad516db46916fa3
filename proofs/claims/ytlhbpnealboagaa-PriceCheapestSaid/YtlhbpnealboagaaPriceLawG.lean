/-
  The walk of the law on the cheapest day.
-/
import Derived.Test.YtlhbpnealboagaaPriceLawD
namespace Go.Proofs.Ytlhbpnealboagaa
open Go.RowKit

/-- What is known of the best of the first k days. -/
structure BestOf (r : Pri.Rule) (base first : Int) (bk : List Int) (k : Nat) (d v : Int) : Prop where
  d0 : 0 ≤ d
  dk : d < k
  at_ : ∀ i : Nat, (i : Int) = d → (Pri.quote r base (bk[i]?.getD 0) (first + i)).1 = v
  ok : ∀ i : Nat, i < k → (Pri.quote r base (bk[i]?.getD 0) (first + i)).2 = 0
  le : ∀ i : Nat, i < k → v ≤ (Pri.quote r base (bk[i]?.getD 0) (first + i)).1
  lt : ∀ i : Nat, (i : Int) < d → v < (Pri.quote r base (bk[i]?.getD 0) (first + i)).1
theorem cheapF_spec (r : Pri.Rule) (base first : Int) (bk : List Int) : ∀ (n k : Nat) (d v : Int), bk.length - k = n → k ≤ bk.length → (k = 0 ∨ BestOf r base first bk k d v) → 0 < bk.length →
    ((Pri.cheapF r base (bk.drop k) k first (d, v)).2.2 ≠ 0 → (Pri.cheapF r base (bk.drop k) k first (d, v)).1 = 0 ∧ (Pri.cheapF r base (bk.drop k) k first (d, v)).2.1 = 0) ∧
    ((Pri.cheapF r base (bk.drop k) k first (d, v)).2.2 = 0 → BestOf r base first bk bk.length (Pri.cheapF r base (bk.drop k) k first (d, v)).1 (Pri.cheapF r base (bk.drop k) k first (d, v)).2.1) := by
  intro n
  induction n with
  | zero =>
    intro k d v hn hk hP h0
    have hke : k = bk.length := by omega
    subst hke
    rw [List.drop_length]
    refine ⟨fun h => absurd rfl h, fun _ => ?_⟩
    rcases hP with h | h
    · omega
    · exact h
  | succ n ih =>
    intro k d v hn hk hP h0
    have hlt : k < bk.length := by omega
    rw [drop_cons bk k hlt]
    by_cases he : (Pri.quote r base (bk[k]?.getD 0) (first + k)).2 = 0
    · by_cases hq : (k : Int) = 0 ∨ (Pri.quote r base (bk[k]?.getD 0) (first + k)).1 < v
      · rw [cheapF_new (n := (Pri.quote r base (bk[k]?.getD 0) (first + k)).1) he rfl hq]
        refine ih (k + 1) _ _ (by omega) (by omega) (.inr ?_) h0
        refine ⟨by omega, by omega, fun i hi => ?_, fun i hi => ?_, fun i hi => ?_, fun i hi => ?_⟩
        · obtain rfl : i = k := by omega
          rfl
        · rcases Nat.lt_or_ge i k with h | h
          · rcases hP with h' | h'
            · omega
            · exact h'.ok i h
          · obtain rfl : i = k := by omega
            exact he
        · rcases Nat.lt_or_ge i k with h | h
          · rcases hP with h' | h'
            · omega
            · have := h'.le i h; omega
          · obtain rfl : i = k := by omega
            exact Int.le_refl _
        · rcases hP with h' | h'
          · omega
          · have := h'.le i (by omega); omega
      · rw [cheapF_old (n := (Pri.quote r base (bk[k]?.getD 0) (first + k)).1) he rfl hq]
        refine ih (k + 1) _ _ (by omega) (by omega) (.inr ?_) h0
        rcases hP with h' | h'
        · exact absurd (Or.inl (by omega)) hq
        · refine ⟨h'.d0, by have := h'.dk; omega, h'.at_, fun i hi => ?_, fun i hi => ?_, h'.lt⟩
          · rcases Nat.lt_or_ge i k with h | h
            · exact h'.ok i h
            · obtain rfl : i = k := by omega
              exact he
          · rcases Nat.lt_or_ge i k with h | h
            · exact h'.le i h
            · obtain rfl : i = k := by omega
              omega
    · rw [cheapF_err (e := (Pri.quote r base (bk[k]?.getD 0) (first + k)).2) rfl he]
      exact ⟨fun _ => ⟨rfl, rfl⟩, fun h => absurd h he⟩
theorem cheap_err {r : Pri.Rule} {base first : Int} {bk : List Int} (h : (Pri.cheap r base first bk).2.2 ≠ 0) : (Pri.cheap r base first bk).1 = 0 ∧ (Pri.cheap r base first bk).2.1 = 0 := by
  unfold Pri.cheap at *
  split
  · exact ⟨rfl, rfl⟩
  split
  · exact ⟨rfl, rfl⟩
  · rename_i h1 h2
    rw [if_neg h1, if_neg h2] at h
    have := (cheapF_spec r base first bk bk.length 0 0 0 (by omega) (by omega) (.inl rfl) (by omega)).1
    exact this h
theorem cheap_best {r : Pri.Rule} {base first : Int} {bk : List Int} (h : (Pri.cheap r base first bk).2.2 = 0) : BestOf r base first bk bk.length (Pri.cheap r base first bk).1 (Pri.cheap r base first bk).2.1 := by
  unfold Pri.cheap at *
  split at h
  · exact absurd h (by decide)
  split at h
  · exact absurd h (by decide)
  · rename_i h1 h2
    rw [if_neg h1, if_neg h2]
    have := (cheapF_spec r base first bk bk.length 0 0 0 (by omega) (by omega) (.inl rfl) (by omega)).2
    exact this h

theorem best_first {r : Pri.Rule} {base first : Int} {bk : List Int} {d v : Int} (h : BestOf r base first bk bk.length d v) : 0 ≤ first ∧ first ≤ 400 := by
  have hd := h.dk
  have h0 := h.d0
  have := quote_zero (h.ok 0 (by omega))
  omega

set_option maxHeartbeats 4000000 in
theorem lawCheapest (l m s : Int) (dem ahe : List (Int × Int)) (base first : Int) (bk : List Int) (A : Option Addr) (c : Nat) (A' : Option Addr) (c' : Nat) (B : Option Addr) (d : Nat) (w : World) (hR : RdP w A dem) (hR' : RdP w A' ahe) (hB : Rd w B bk) (hf1 : -9223372036854775808 ≤ first) (hf2 : first ≤ 9223372036854775807) :
    Calls Try.prog 10 #[rv l m s A dem.length c A' ahe.length c', .int .i64 base, .int .i64 first, .slice B bk.length d] w fun e w' => e = .returned (.bool true) ∧ Below w.heap.size w w' := by
  have HR := Lib.hid hR
  have HR' := Lib.hid hR'
  have HB := Lib.hid hB
  have HFF := Lib.hid (And.intro hf1 hf2)
  clear hR hR' hB hf1 hf2
  by_cases hs : dem.length ≤ 100 ∧ ahe.length ≤ 100
  · have HS := Lib.hid hs
    clear hs
    by_cases hbk : 120 < bk.length
    · go_enter Try.func10, Try.ntmps10
      go_wp2_with fail
      refine (alive_any _).mono ?_
      rintro e w1 ⟨rfl, hb1⟩
      obtain ⟨hc1, hf1⟩ := bcell hb1; have z1 := hb1.size; (try simp at z1); have g1 : Below w.heap.size w w1 := thru (by go_grown) hb1 (by first | omega | (simp; done) | (simp; omega)); (try have s1 : w.heap.size < w1.heap.size := by omega); (try have t1_a1 : w.heap.size < w1.heap.size + 1 := by omega); (try have t1_a2 : w.heap.size < w1.heap.size + 1 + 1 := by omega)
      go_wp2_with fail
      refine (few_yes _ _ _ _ _ _ _ _ _ _ HS.out).mono ?_
      rintro e w2 ⟨rfl, rfl⟩
      go_wp2
      go_ret
      exact ⟨rfl, by go_grown⟩
    have hbk' : bk.length ≤ 120 := by omega
    clear hbk
    obtain ⟨f1, hf1⟩ : ∃ f, f = (Pri.cheap ⟨l, m, s, dem, ahe⟩ base first bk).1 := ⟨_, rfl⟩
    obtain ⟨f2, hf2⟩ : ∃ f, f = (Pri.cheap ⟨l, m, s, dem, ahe⟩ base first bk).2.1 := ⟨_, rfl⟩
    obtain ⟨f3, hf3⟩ : ∃ f, f = (Pri.cheap ⟨l, m, s, dem, ahe⟩ base first bk).2.2 := ⟨_, rfl⟩
    have F1 := Lib.hid hf1
    have F2 := Lib.hid hf2
    have F3 := Lib.hid hf3
    clear hf1 hf2 hf3
    by_cases hz : f3 = 0
    · obtain rfl := hz
      have hbest := cheap_best F3.out.symm
      rw [← F1.out, ← F2.out] at hbest
      have hd0 := hbest.d0
      have hdk := hbest.dk
      obtain ⟨ff0, ff1⟩ := best_first hbest
      have HBS := Lib.hid hbest
      clear hbest
      go_enter Try.func10, Try.ntmps10
      go_wp2_with fail
      refine (alive_any _).mono ?_
      rintro e w1 ⟨rfl, hb1⟩
      have B1 := Lib.hid ((HB.out.below (by go_grown)).below hb1)
      have R1 := Lib.hid ((HR.out.below (by go_grown)).below hb1)
      have R1' := Lib.hid ((HR'.out.below (by go_grown)).below hb1)
      obtain ⟨hc1, hf1⟩ := bcell hb1; have z1 := hb1.size; (try simp at z1); have g1 : Below w.heap.size w w1 := thru (by go_grown) hb1 (by first | omega | (simp; done) | (simp; omega)); (try have s1 : w.heap.size < w1.heap.size := by omega); (try have t1_a1 : w.heap.size < w1.heap.size + 1 := by omega); (try have t1_a2 : w.heap.size < w1.heap.size + 1 + 1 := by omega)
      go_wp2_with fail
      refine (few_yes _ _ _ _ _ _ _ _ _ _ HS.out).mono ?_
      rintro e w2 ⟨rfl, rfl⟩
      go_wp2_with fail
      refine (cheap_any l m s dem ahe A c A' c' base first bk B d _ (R1.out.below (by go_grown)) (R1'.out.below (by go_grown)) HS.out.1 HS.out.2 (B1.out.below (by go_grown)) HFF.out.1 HFF.out.2).mono ?_
      rw [← F1.out, ← F2.out, ← F3.out]
      rintro e w2 ⟨rfl, hb2⟩
      have B2 := Lib.hid ((B1.out.below (by go_grown)).below hb2)
      have R2 := Lib.hid ((R1.out.below (by go_grown)).below hb2)
      have R2' := Lib.hid ((R1'.out.below (by go_grown)).below hb2)
      have C1 : CellsR w1 w.heap.size l m s A dem.length c A' ahe.length c' := CellsR.below (w := w.alloc (rcells l m s A dem.length c A' ahe.length c')) ⟨by simp [go_sem], by simp [go_sem], by simp [go_sem], by simp [go_sem], by simp [go_sem], by simp⟩ hb1
      have C2 : CellsR w2 w.heap.size l m s A dem.length c A' ahe.length c' := (C1.below ((Below.refl _ _).alloc (Nat.le_refl _) (rcells l m s A dem.length c A' ahe.length c'))).below hb2
      have HC2 := Lib.hid C2
      have HB2 : Hid (Below w.heap.size w w2) := Lib.hid ((((Below.refl _ _).alloc (Nat.le_refl _) _).trans (hb1.mono (by simp))).trans (((Below.refl _ _).alloc (Nat.le_refl _) (rcells l m s A dem.length c A' ahe.length c')).trans (hb2.mono (by simp)) |>.mono (by have := hb1.size; simp at this; omega)))
      clear C1 C2 hb1 hb2
      go_wp2
      go_loopw [12] (fun i wr => ∃ k : Nat, k ≤ bk.length ∧ i = .int .i64 k ∧ Below w2.heap.size w2 wr) (fun i _ => bk.length - (intOf i).toNat)
      case atStart => exact ⟨0, Nat.zero_le _, rfl, Below.refl _ _⟩
      case round =>
        obtain ⟨k, hk, rfl, hbw⟩ := hrel
        have HBW := Lib.hid hbw
        by_cases hlt : k < bk.length
        · have HRX := Lib.hid (R2.out.below hbw)
          have HRX' := Lib.hid (R2'.out.below hbw)
          have HCR := Lib.hid (HC2.out.below hbw)
          obtain ⟨c0, c1, c2, c3, c4, cl⟩ := HCR.out
          obtain ⟨b, off, rfl, hbl, hcell⟩ := (B2.out.below hbw).at_ hlt
          clear hbw
          have g1 := Lib.hid (HBS.out.ok k hlt)
          have g2 := HBS.out.le k hlt
          have g3 := HBS.out.lt k
          have g4 := HBS.out.at_ k
          generalize hx : bk[k]?.getD 0 = x at *
          have HX := Lib.hid hx
          clear hx
          generalize hq : (Pri.quote ⟨l, m, s, dem, ahe⟩ base x (first + k)).1 = q at *
          have HQ := Lib.hid hq
          clear hq
          have key : ((k : Int) < f1 ∧ f2 < q) ∨ ((k : Int) = f1 ∧ q = f2) ∨ (f1 < (k : Int) ∧ f2 ≤ q) := by
            rcases Int.lt_trichotomy (k : Int) f1 with h | h | h
            · exact .inl ⟨h, g3 h⟩
            · exact .inr (.inl ⟨h, g4 h⟩)
            · exact .inr (.inr ⟨h, g2⟩)
          clear g3 g4
          have HKY := Lib.hid key
          have hw2 : IntKind.i64.wrap (first + (k : Int)) = first + k := IntWalk.i64_in _ (by omega)
          clear key g2
          go_wp2_with fail
          go_region_held3 (fun w' => w'.cell? ⟨w.heap.size, 0, none⟩ = some (.int .i64 l) ∧ w'.cell? ⟨w.heap.size, 1, none⟩ = some (.int .i64 m) ∧ w'.cell? ⟨w.heap.size, 2, none⟩ = some (.int .i64 s) ∧ w'.cell? ⟨w.heap.size, 3, none⟩ = some (.slice A dem.length c) ∧ w'.cell? ⟨w.heap.size, 4, none⟩ = some (.slice A' ahe.length c') ∧ w'.cell? ⟨b, off + k, none⟩ = some (.int .i64 x)) (first | (simp [go_sem, *]; done) | exact ⟨d0, d1, d2, d3, d4, d5⟩)
            ((go_at_call 17; refine (quote_any l m s dem ahe A c A' c' base x (first + k) _ (HRX.out.below (by ((repeat (first | refine below_drewN ?_ _ | refine below_drew ?_)); go_grown))) (HRX'.out.below (by ((repeat (first | refine below_drewN ?_ _ | refine below_drew ?_)); go_grown))) HS.out.1 HS.out.2).mono ?_; rw [HQ.out, g1.out]; rintro e w3 ⟨rfl, hb3⟩; have hb3' : Below wr.heap.size wr w3 := (below_drew (Below.refl _ _)).trans hb3; obtain ⟨d0, d1, d2, d3, d4, dl⟩ := HCR.out.below hb3'; have d5 := (hb3'.cell (p := ⟨b, off + k, none⟩) hbl).trans hcell))
          clear hw2
          have HBW3 := Lib.hid (HBW.out.trans (hb3'.mono HBW.out.size))
          clear hb3 hb3' d0 d1 d2 d3 d4 d5
          rcases HKY.out with ⟨k1, k2⟩ | ⟨k1, k2⟩ | ⟨k1, k2⟩
          · have k3 : (q == f2) = false := by rw [beq_eq_false_iff_ne]; omega
            have k4 : ((k : Int) == f1) = false := by rw [beq_eq_false_iff_ne]; omega
            go_wp2
            go_roundw
            case rel => exact ⟨k + 1, by omega, by go_num, HBW3.out⟩
            case measure => simp [intOf]; omega
          · have k3 : (q == f2) = true := by rw [beq_iff_eq]; exact k2
            have k3' : (q != f2) = false := by rw [bne_eq_false_iff_eq]; exact k2
            have k4 : ((k : Int) == f1) = true := by rw [beq_iff_eq]; exact k1
            have k5 : ¬ (k : Int) < f1 := by omega
            have k6 : ¬ q < f2 := by omega
            clear k1 k2
            go_wp2
            go_roundw
            case rel => exact ⟨k + 1, by omega, by go_num, HBW3.out⟩
            case measure => simp [intOf]; omega
          · have k4 : ((k : Int) == f1) = false := by rw [beq_eq_false_iff_ne]; omega
            go_wp2
            go_roundw
            case rel => exact ⟨k + 1, by omega, by go_num, HBW3.out⟩
            case measure => simp [intOf]; omega
        · have hke : k = bk.length := by omega
          have HK := Lib.hid hke
          clear hke
          go_wp2
          go_ret
          exact ⟨rfl, HB2.out.trans (HBW.out.mono HB2.out.size)⟩
    · have h0 := cheap_err (by rw [← F3.out]; exact hz)
      rw [← F1.out, ← F2.out] at h0
      obtain ⟨rfl, rfl⟩ := h0
      have hz1 : (f3 == 0) = false := by simpa using hz
      have hz2 : (f3 != 0) = true := by simpa using hz
      go_enter Try.func10, Try.ntmps10
      go_wp2_with fail
      refine (alive_any _).mono ?_
      rintro e w1 ⟨rfl, hb1⟩
      have B1 := Lib.hid ((HB.out.below (by go_grown)).below hb1)
      have R1 := Lib.hid ((HR.out.below (by go_grown)).below hb1)
      have R1' := Lib.hid ((HR'.out.below (by go_grown)).below hb1)
      obtain ⟨hc1, hf1⟩ := bcell hb1; have z1 := hb1.size; (try simp at z1); have g1 : Below w.heap.size w w1 := thru (by go_grown) hb1 (by first | omega | (simp; done) | (simp; omega)); (try have s1 : w.heap.size < w1.heap.size := by omega); (try have t1_a1 : w.heap.size < w1.heap.size + 1 := by omega); (try have t1_a2 : w.heap.size < w1.heap.size + 1 + 1 := by omega)
      go_wp2_with fail
      refine (few_yes _ _ _ _ _ _ _ _ _ _ HS.out).mono ?_
      rintro e w2 ⟨rfl, rfl⟩
      go_wp2_with fail
      refine (cheap_any l m s dem ahe A c A' c' base first bk B d _ (R1.out.below (by go_grown)) (R1'.out.below (by go_grown)) HS.out.1 HS.out.2 (B1.out.below (by go_grown)) HFF.out.1 HFF.out.2).mono ?_
      rw [← F1.out, ← F2.out, ← F3.out]
      rintro e w2 ⟨rfl, hb2⟩
      obtain ⟨hc2, hf2⟩ := bcell hb2; have z2 := hb2.size; (try simp at z2); have g2 : Below w.heap.size w w2 := thru (by go_grown) hb2 (by first | omega | (simp; done) | (simp; omega)); (try have s2 : w.heap.size < w2.heap.size := by omega); (try have t2_a1 : w.heap.size < w2.heap.size + 1 := by omega); (try have t1_2_a1 : w1.heap.size < w2.heap.size + 1 := by omega); (try have t2_a2 : w.heap.size < w2.heap.size + 1 + 1 := by omega); (try have t1_2_a2 : w1.heap.size < w2.heap.size + 1 + 1 := by omega); (try have s1_2 : w1.heap.size < w2.heap.size := by omega)
      go_wp2
      go_ret
      exact ⟨rfl, by go_grown⟩
  · have HS := Lib.hid hs
    clear hs
    go_enter Try.func10, Try.ntmps10
    go_wp2_with fail
    refine (alive_any _).mono ?_
    rintro e w1 ⟨rfl, hb1⟩
    obtain ⟨hc1, hf1⟩ := bcell hb1; have z1 := hb1.size; (try simp at z1); have g1 : Below w.heap.size w w1 := thru (by go_grown) hb1 (by first | omega | (simp; done) | (simp; omega)); (try have s1 : w.heap.size < w1.heap.size := by omega); (try have t1_a1 : w.heap.size < w1.heap.size + 1 := by omega); (try have t1_a2 : w.heap.size < w1.heap.size + 1 + 1 := by omega)
    go_wp2_with fail
    refine (few_no _ _ _ _ _ _ _ _ _ _ HS.out).mono ?_
    rintro e w2 ⟨rfl, rfl⟩
    go_wp2
    go_ret
    exact ⟨rfl, by go_grown⟩
end Go.Proofs.Ytlhbpnealboagaa
