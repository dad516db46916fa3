/-
  The walk of the cheapest day.
-/
import Derived.Test.YtlhbpnealboagaaPriceWalkG
import Derived.Test.YtlhbpnealboagaaSlice
namespace Go.Proofs.Ytlhbpnealboagaa
open Go.RowKit

/-- The five cells of a rule's box. -/
structure CellsR (w : World) (g : Nat) (l m s : Int) (A : Option Addr) (n c : Nat) (A' : Option Addr) (n' c' : Nat) : Prop where
  c0 : w.cell? ⟨g, 0, none⟩ = some (.int .i64 l)
  c1 : w.cell? ⟨g, 1, none⟩ = some (.int .i64 m)
  c2 : w.cell? ⟨g, 2, none⟩ = some (.int .i64 s)
  c3 : w.cell? ⟨g, 3, none⟩ = some (.slice A n c)
  c4 : w.cell? ⟨g, 4, none⟩ = some (.slice A' n' c')
  lt : g < w.heap.size
theorem CellsR.below {w w' : World} {g : Nat} {l m s : Int} {A : Option Addr} {n c : Nat} {A' : Option Addr} {n' c' : Nat} (h : CellsR w g l m s A n c A' n' c') (hb : Below w.heap.size w w') : CellsR w' g l m s A n c A' n' c' :=
  ⟨(hb.cell (p := ⟨g, 0, none⟩) h.lt).trans h.c0, (hb.cell (p := ⟨g, 1, none⟩) h.lt).trans h.c1, (hb.cell (p := ⟨g, 2, none⟩) h.lt).trans h.c2, (hb.cell (p := ⟨g, 3, none⟩) h.lt).trans h.c3, (hb.cell (p := ⟨g, 4, none⟩) h.lt).trans h.c4, Nat.lt_of_lt_of_le h.lt hb.size⟩

theorem quote_zero {r : Pri.Rule} {base b a : Int} (h : (Pri.quote r base b a).2 = 0) : 0 ≤ a ∧ a ≤ 400 := by
  unfold Pri.quote at h
  split at h
  · rename_i h1; exact absurd h h1
  rename_i h1
  unfold Pri.factor at h1
  split at h1
  · rename_i h2; exact absurd (by simpa using h1) h2
  split at h1
  · exact absurd h1 (by decide)
  · omega
theorem cheapF_err {r : Pri.Rule} {base b k first : Int} {l : List Int} {bst : Int × Int} {e : Int} (h : (Pri.quote r base b (first + k)).2 = e) (he : e ≠ 0) : Pri.cheapF r base (b :: l) k first bst = (0, 0, e) := by
  rw [Pri.cheapF, if_pos (by rw [h]; exact he), h]
theorem cheapF_new {r : Pri.Rule} {base b k first n : Int} {l : List Int} {bst : Int × Int} (h : (Pri.quote r base b (first + k)).2 = 0) (hn : (Pri.quote r base b (first + k)).1 = n) (hk : k = 0 ∨ n < bst.2) : Pri.cheapF r base (b :: l) k first bst = Pri.cheapF r base l (k + 1) first (k, n) := by
  rw [Pri.cheapF, if_neg (by rw [h]; exact fun h => h rfl), hn, if_pos hk]
theorem cheapF_old {r : Pri.Rule} {base b k first n : Int} {l : List Int} {bst : Int × Int} (h : (Pri.quote r base b (first + k)).2 = 0) (hn : (Pri.quote r base b (first + k)).1 = n) (hk : ¬ (k = 0 ∨ n < bst.2)) : Pri.cheapF r base (b :: l) k first bst = Pri.cheapF r base l (k + 1) first bst := by
  rw [Pri.cheapF, if_neg (by rw [h]; exact fun h => h rfl), hn, if_neg hk]
theorem drop_cons (l : List Int) (k : Nat) (h : k < l.length) : l.drop k = (l[k]?.getD 0) :: l.drop (k + 1) := by
  rw [List.drop_eq_getElem_cons h, List.getElem?_eq_getElem h]; rfl

set_option maxHeartbeats 1000000 in
theorem cheap_any (l m s : Int) (dem ahe : List (Int × Int)) (A : Option Addr) (c : Nat) (A' : Option Addr) (c' : Nat) (base first : Int) (bk : List Int) (B : Option Addr) (d : Nat) (w : World) (hR : RdP w A dem) (hR' : RdP w A' ahe) (hm : dem.length ≤ 100) (hm' : ahe.length ≤ 100) (hB : Rd w B bk) (hf1 : -9223372036854775808 ≤ first) (hf2 : first ≤ 9223372036854775807) :
    Calls Try.prog 19 #[rv l m s A dem.length c A' ahe.length c', .int .i64 base, .int .i64 first, .slice B bk.length d] w fun e w' => e = .returned (.tuple #[.int .i64 (Pri.cheap ⟨l, m, s, dem, ahe⟩ base first bk).1, .int .i64 (Pri.cheap ⟨l, m, s, dem, ahe⟩ base first bk).2.1, .int .i64 (Pri.cheap ⟨l, m, s, dem, ahe⟩ base first bk).2.2]) ∧ Below w.heap.size w w' := by
  have HR := Lib.hid hR
  have HR' := Lib.hid hR'
  have HB := Lib.hid hB
  have HF := Lib.hid (And.intro hf1 hf2)
  clear hR hR' hB hf1 hf2
  by_cases h0 : bk.length = 0
  · rw [show Pri.cheap ⟨l, m, s, dem, ahe⟩ base first bk = (0, 0, 8) from if_pos h0]
    go_enter Try.func19, Try.ntmps19
    go_wp2
    go_ret3
    exact ⟨rfl, by go_grown⟩
  by_cases h1 : 100 < bk.length
  · rw [show Pri.cheap ⟨l, m, s, dem, ahe⟩ base first bk = (0, 0, 4) from (if_neg h0).trans (if_pos h1)]
    have h00 : ((bk.length : Int) == 0) = false := by rw [beq_eq_false_iff_ne]; omega
    clear h0
    go_enter Try.func19, Try.ntmps19
    go_wp2
    go_ret3
    exact ⟨rfl, by go_grown⟩
  · rw [show Pri.cheap ⟨l, m, s, dem, ahe⟩ base first bk = Pri.cheapF ⟨l, m, s, dem, ahe⟩ base bk 0 first (0, 0) from (if_neg h0).trans (if_neg h1)]
    have h00 : ((bk.length : Int) == 0) = false := by rw [beq_eq_false_iff_ne]; omega
    have h01 : 0 < bk.length := by omega
    obtain ⟨G, hG⟩ : ∃ G, G = Pri.cheapF ⟨l, m, s, dem, ahe⟩ base bk 0 first (0, 0) := ⟨_, rfl⟩
    rw [← hG]
    have HG := Lib.hid hG
    clear h0 hG
    go_enter Try.func19, Try.ntmps19
    go_wp2
    go_loopw [11, 12, 25] (fun d n i wr => ∃ (k : Nat) (dv nv : Int), k ≤ bk.length ∧ i = .int .i64 k ∧ d = .int .i64 dv ∧ n = .int .i64 nv ∧ G = Pri.cheapF ⟨l, m, s, dem, ahe⟩ base (bk.drop k) k first (dv, nv) ∧ (k = 0 ∨ (0 ≤ first ∧ first ≤ 400)) ∧ CellsR wr w.heap.size l m s A dem.length c A' ahe.length c' ∧ Below w.heap.size w wr) (fun _ _ i _ => bk.length - (intOf i).toNat)
    case atStart => exact ⟨0, 0, 0, Nat.zero_le _, rfl, rfl, rfl, by rw [HG.out]; rfl, .inl rfl, ⟨by simp [go_sem], by simp [go_sem], by simp [go_sem], by simp [go_sem], by simp [go_sem], by simp⟩, by go_grown⟩
    case round =>
      obtain ⟨k, dv, nv, hk, rfl, rfl, rfl, hg, hfr, hcr, hbw⟩ := hrel
      have HGI := Lib.hid hg
      have HBW := Lib.hid hbw
      have HCR := Lib.hid hcr
      have HRX := Lib.hid (HR.out.below hbw)
      have HRX' := Lib.hid (HR'.out.below hbw)
      have HBX := Lib.hid (HB.out.below hbw)
      obtain ⟨c0, c1, c2, c3, c4, cl⟩ := hcr
      clear hg hbw
      by_cases hlt : k < bk.length
      · obtain ⟨b, off, rfl, hbl, hcell⟩ := HBX.out.at_ hlt
        have hdr := Lib.hid (drop_cons bk k hlt)
        generalize hx : bk[k]?.getD 0 = x at *
        have HX := Lib.hid hx
        clear hx
        have hwf : wrap64 (first + (k : Int)) = first + k := by
          have := HF.out
          rcases hfr with h | h
          · subst h; unfold wrap64; omega
          · unfold wrap64; omega
        have HFR := Lib.hid hfr
        obtain ⟨q1, hq1⟩ : ∃ q, q = (Pri.quote ⟨l, m, s, dem, ahe⟩ base x (first + k)).1 := ⟨_, rfl⟩
        obtain ⟨q2, hq2⟩ : ∃ q, q = (Pri.quote ⟨l, m, s, dem, ahe⟩ base x (first + k)).2 := ⟨_, rfl⟩
        have HQ1 := Lib.hid hq1
        have HQ2 := Lib.hid hq2
        have HWF := Lib.hid hwf
        clear hq1 hq2 hfr hwf
        go_wp2_with fail
        rw [HWF.out]
        refine (quote_any l m s dem ahe A c A' c' base x (first + k) _ HRX.out HRX'.out hm hm').mono ?_
        rw [← HQ1.out, ← HQ2.out]
        rintro e w1 ⟨rfl, hb1⟩
        have HCR1 := Lib.hid (HCR.out.below hb1)
        have HBW1 := Lib.hid (HBW.out.trans (hb1.mono HBW.out.size))
        clear hb1
        by_cases hz : q2 = 0
        · obtain rfl := hz
          have hfk := quote_zero HQ2.out.symm
          have hf0 : 0 ≤ first ∧ first ≤ 400 := by rcases HFR.out with h | h <;> omega
          have HF0 := Lib.hid hf0
          clear hfk hf0
          by_cases hn : (k : Int) = 0 ∨ q1 < nv
          · have HG2 := Lib.hid (hdr.out ▸ HGI.out)
            have HN := Lib.hid (cheapF_new (l := bk.drop (k + 1)) (bst := (dv, nv)) HQ2.out.symm HQ1.out.symm hn)
            by_cases hk0 : k = 0
            · have hk1 : ((k : Int) == 0) = true := by rw [beq_iff_eq]; omega
              have HK0 := Lib.hid hk0
              clear hn hk0
              go_wp2
              go_roundw
              case rel => exact ⟨k + 1, k, q1, by omega, by go_num, rfl, rfl, by rw [HG2.out, HN.out]; rfl, .inr HF0.out, HCR1.out, HBW1.out⟩
              case measure => simp [intOf]; omega
            · have hk1 : ((k : Int) == 0) = false := by rw [beq_eq_false_iff_ne]; omega
              have hq : q1 < nv := by omega
              clear hn hk0
              go_wp2
              go_roundw
              case rel => exact ⟨k + 1, k, q1, by omega, by go_num, rfl, rfl, by rw [HG2.out, HN.out]; rfl, .inr HF0.out, HCR1.out, HBW1.out⟩
              case measure => simp [intOf]; omega
          · have HG2 := Lib.hid (hdr.out ▸ HGI.out)
            have HN := Lib.hid (cheapF_old (l := bk.drop (k + 1)) (bst := (dv, nv)) HQ2.out.symm HQ1.out.symm hn)
            have hk1 : ((k : Int) == 0) = false := by rw [beq_eq_false_iff_ne]; omega
            have hq : ¬ q1 < nv := by omega
            clear hn
            go_wp2
            go_roundw
            case rel => exact ⟨k + 1, dv, nv, by omega, by go_num, rfl, rfl, by rw [HG2.out, HN.out]; rfl, .inr HF0.out, HCR1.out, HBW1.out⟩
            case measure => simp [intOf]; omega
        · have HG2 := Lib.hid (hdr.out ▸ HGI.out)
          have HN := Lib.hid (cheapF_err (l := bk.drop (k + 1)) (bst := (dv, nv)) HQ2.out.symm hz)
          have hz1 : (q2 == 0) = false := by simpa using hz
          have hz2 : (q2 != 0) = true := by simpa using hz
          go_wp2
          go_ret3
          exact ⟨by rw [HG2.out, HN.out]; rfl, HBW1.out⟩
      · have hke : k = bk.length := by omega
        have HK := Lib.hid hke
        clear hke
        go_wp2
        go_ret3
        refine ⟨?_, HBW.out⟩
        rw [HGI.out, List.drop_of_length_le (by have := HK.out; omega)]
        rfl
end Go.Proofs.Ytlhbpnealboagaa
