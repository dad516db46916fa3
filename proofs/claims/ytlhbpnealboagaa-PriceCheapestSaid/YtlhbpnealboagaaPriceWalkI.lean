/-
  The walk of the reference's cheapest day.
-/
import Derived.Test.YtlhbpnealboagaaPriceWalkH
namespace Go.Proofs.Ytlhbpnealboagaa
open Go.RowKit

set_option maxHeartbeats 1000000 in
theorem rcheap_any (l m s : Int) (dem ahe : List (Int × Int)) (A : Option Addr) (c : Nat) (A' : Option Addr) (c' : Nat) (base first : Int) (bk : List Int) (B : Option Addr) (d : Nat) (w : World) (hR : RdP w A dem) (hR' : RdP w A' ahe) (hm : dem.length ≤ 100) (hm' : ahe.length ≤ 100) (hB : Rd w B bk) (hf1 : -9223372036854775808 ≤ first) (hf2 : first ≤ 9223372036854775807) :
    Calls Try.prog 20 #[rv l m s A dem.length c A' ahe.length c', .int .i64 base, .int .i64 first, .slice B bk.length d] w fun e w' => e = .returned (.tuple #[.int .i64 (Pri.cheap ⟨l, m, s, dem, ahe⟩ base first bk).1, .int .i64 (Pri.cheap ⟨l, m, s, dem, ahe⟩ base first bk).2.1, .int .i64 (Pri.cheap ⟨l, m, s, dem, ahe⟩ base first bk).2.2]) ∧ Below w.heap.size w w' := by
  have HR := Lib.hid hR
  have HR' := Lib.hid hR'
  have HB := Lib.hid hB
  have HF := Lib.hid (And.intro hf1 hf2)
  clear hR hR' hB hf1 hf2
  by_cases h0 : bk.length = 0
  · rw [show Pri.cheap ⟨l, m, s, dem, ahe⟩ base first bk = (0, 0, 8) from if_pos h0]
    go_enter Try.func20, Try.ntmps20
    go_wp2
    go_ret3
    exact ⟨rfl, by go_grown⟩
  by_cases h1 : 100 < bk.length
  · rw [show Pri.cheap ⟨l, m, s, dem, ahe⟩ base first bk = (0, 0, 4) from (if_neg h0).trans (if_pos h1)]
    have h00 : ((bk.length : Int) == 0) = false := by rw [beq_eq_false_iff_ne]; omega
    clear h0
    go_enter Try.func20, Try.ntmps20
    go_wp2
    go_ret3
    exact ⟨rfl, by go_grown⟩
  · rw [show Pri.cheap ⟨l, m, s, dem, ahe⟩ base first bk = Pri.cheapF ⟨l, m, s, dem, ahe⟩ base bk 0 first (0, 0) from (if_neg h0).trans (if_neg h1)]
    have h00 : ((bk.length : Int) == 0) = false := by rw [beq_eq_false_iff_ne]; omega
    have h01 : 0 < bk.length := by omega
    obtain ⟨G, hG⟩ : ∃ G, G = Pri.cheapF ⟨l, m, s, dem, ahe⟩ base bk 0 first (0, 0) := ⟨_, rfl⟩
    rw [← hG]
    have HG := Lib.hid hG
    clear h0 hG
    go_enter Try.func20, Try.ntmps20
    go_wp2
    go_loopw [11, 12, 13] (fun n a i wr => ∃ (k : Nat) (dv nv av : Int), k ≤ bk.length ∧ i = .int .i64 k ∧ a = .int .i64 av ∧ n = .int .i64 nv ∧ ((k = 0 ∧ av = -1) ∨ (0 < k ∧ av = dv ∧ 0 ≤ av)) ∧ G = Pri.cheapF ⟨l, m, s, dem, ahe⟩ base (bk.drop k) k first (dv, nv) ∧ (k = 0 ∨ (0 ≤ first ∧ first ≤ 400)) ∧ CellsR wr w.heap.size l m s A dem.length c A' ahe.length c' ∧ Below w.heap.size w wr) (fun _ _ i _ => bk.length - (intOf i).toNat)
    case atStart => exact ⟨0, 0, 0, -1, Nat.zero_le _, rfl, rfl, rfl, .inl ⟨rfl, rfl⟩, by rw [HG.out]; rfl, .inl rfl, ⟨by simp [go_sem], by simp [go_sem], by simp [go_sem], by simp [go_sem], by simp [go_sem], by simp⟩, by go_grown⟩
    case round =>
      obtain ⟨k, dv, nv, av, hk, rfl, rfl, rfl, hav, hg, hfr, hcr, hbw⟩ := hrel
      have HAV := Lib.hid hav
      clear hav
      have HGI := Lib.hid hg
      have HBW := Lib.hid hbw
      have HCR := Lib.hid hcr
      have HRX := Lib.hid (HR.out.below hbw)
      have HRX' := Lib.hid (HR'.out.below hbw)
      have HBX := Lib.hid (HB.out.below hbw)
      obtain ⟨c0, c1, c2, c3, c4, cl⟩ := hcr
      clear hg hbw
      by_cases hlt : k < bk.length
      · obtain ⟨b, off, rfl, hbl, hcell⟩ := HBX.out.at_ hlt
        have hdr := Lib.hid (drop_cons bk k hlt)
        generalize hx : bk[k]?.getD 0 = x at *
        have HX := Lib.hid hx
        clear hx
        have hwf : wrap64 (first + (k : Int)) = first + k := by
          have := HF.out
          rcases hfr with h | h
          · subst h; unfold wrap64; omega
          · unfold wrap64; omega
        have HFR := Lib.hid hfr
        obtain ⟨q1, hq1⟩ : ∃ q, q = (Pri.quote ⟨l, m, s, dem, ahe⟩ base x (first + k)).1 := ⟨_, rfl⟩
        obtain ⟨q2, hq2⟩ : ∃ q, q = (Pri.quote ⟨l, m, s, dem, ahe⟩ base x (first + k)).2 := ⟨_, rfl⟩
        have HQ1 := Lib.hid hq1
        have HQ2 := Lib.hid hq2
        have HWF := Lib.hid hwf
        clear hq1 hq2 hfr hwf
        have HWF2 := Lib.hid (show IntKind.i64.wrap (first + (k : Int)) = first + k from IntWalk.i64_in _ (by have := HF.out; rcases HFR.out with h | h <;> omega))
        have hw2 := HWF2.out
        go_wp2_with fail
        go_region_held3 (fun w' => w'.cell? ⟨w.heap.size, 0, none⟩ = some (.int .i64 l) ∧ w'.cell? ⟨w.heap.size, 1, none⟩ = some (.int .i64 m) ∧ w'.cell? ⟨w.heap.size, 2, none⟩ = some (.int .i64 s) ∧ w'.cell? ⟨w.heap.size, 3, none⟩ = some (.slice A dem.length c) ∧ w'.cell? ⟨w.heap.size, 4, none⟩ = some (.slice A' ahe.length c') ∧ w'.cell? ⟨b, off + k, none⟩ = some (.int .i64 x)) (first | (simp [go_sem, *]; done) | exact ⟨d0, d1, d2, d3, d4, d5⟩)
          ((go_at_call 18; refine (rquote_any l m s dem ahe A c A' c' base x (first + k) _ (HRX.out.below (by ((repeat (first | refine below_drewN ?_ _ | refine below_drew ?_)); go_grown))) (HRX'.out.below (by ((repeat (first | refine below_drewN ?_ _ | refine below_drew ?_)); go_grown))) hm hm').mono ?_; rw [← HQ1.out, ← HQ2.out]; rintro e w1 ⟨rfl, hb1⟩; have hb1' : Below wr.heap.size wr w1 := (below_drew (Below.refl _ _)).trans hb1; obtain ⟨d0, d1, d2, d3, d4, dl⟩ := HCR.out.below hb1'; have d5 := (hb1'.cell (p := ⟨b, off + k, none⟩) hbl).trans hcell))
        clear hw2
        have HCR1 := Lib.hid (HCR.out.below hb1')
        have HBW1 := Lib.hid (HBW.out.trans (hb1'.mono HBW.out.size))
        clear hb1 hb1' d0 d1 d2 d3 d4 d5
        by_cases hz : q2 = 0
        · obtain rfl := hz
          have hfk := quote_zero HQ2.out.symm
          have hf0 : 0 ≤ first ∧ first ≤ 400 := by rcases HFR.out with h | h <;> omega
          have HF0 := Lib.hid hf0
          clear hfk hf0
          by_cases hn : (k : Int) = 0 ∨ q1 < nv
          · have HG2 := Lib.hid (hdr.out ▸ HGI.out)
            have HN := Lib.hid (cheapF_new (l := bk.drop (k + 1)) (bst := (dv, nv)) HQ2.out.symm HQ1.out.symm hn)
            by_cases hk0 : k = 0
            · have hk1 : av < 0 := by rcases HAV.out with h | h <;> omega
              have HK0 := Lib.hid hk0
              clear hn hk0
              go_wp2
              go_roundw
              case rel => exact ⟨k + 1, k, q1, k, by omega, by go_num, rfl, rfl, .inr ⟨by omega, rfl, by omega⟩, by rw [HG2.out, HN.out]; rfl, .inr HF0.out, HCR1.out, HBW1.out⟩
              case measure => simp [intOf]; omega
            · have hk1 : 0 ≤ av := by rcases HAV.out with h | h <;> omega
              have hq : q1 < nv := by omega
              clear hn hk0
              go_wp2
              go_roundw
              case rel => exact ⟨k + 1, k, q1, k, by omega, by go_num, rfl, rfl, .inr ⟨by omega, rfl, by omega⟩, by rw [HG2.out, HN.out]; rfl, .inr HF0.out, HCR1.out, HBW1.out⟩
              case measure => simp [intOf]; omega
          · have HG2 := Lib.hid (hdr.out ▸ HGI.out)
            have HN := Lib.hid (cheapF_old (l := bk.drop (k + 1)) (bst := (dv, nv)) HQ2.out.symm HQ1.out.symm hn)
            have hk1 : 0 ≤ av := by rcases HAV.out with h | h <;> omega
            have hq : ¬ q1 < nv := by omega
            clear hn
            go_wp2
            go_roundw
            case rel => exact ⟨k + 1, dv, nv, av, by omega, by go_num, rfl, rfl, .inr ⟨by omega, by rcases HAV.out with h | h <;> omega, hk1⟩, by rw [HG2.out, HN.out]; rfl, .inr HF0.out, HCR1.out, HBW1.out⟩
            case measure => simp [intOf]; omega
        · have HG2 := Lib.hid (hdr.out ▸ HGI.out)
          have HN := Lib.hid (cheapF_err (l := bk.drop (k + 1)) (bst := (dv, nv)) HQ2.out.symm hz)
          have hz1 : (q2 == 0) = false := by simpa using hz
          have hz2 : (q2 != 0) = true := by simpa using hz
          go_wp2
          go_ret3
          exact ⟨by rw [HG2.out, HN.out]; rfl, HBW1.out⟩
      · have hke : k = bk.length := by omega
        have HK := Lib.hid hke
        clear hke
        go_wp2
        go_ret3
        refine ⟨?_, HBW.out⟩
        have hav : av = dv := by
          have := HK.out
          rcases HAV.out with h | h <;> omega
        rw [HGI.out, List.drop_of_length_le (by have := HK.out; omega), ← hav]
        rfl
end Go.Proofs.Ytlhbpnealboagaa
