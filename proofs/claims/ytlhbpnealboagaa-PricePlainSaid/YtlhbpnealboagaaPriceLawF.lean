/-
  The walk of the law on plain prices.
-/
import Derived.Test.YtlhbpnealboagaaPriceLawD
namespace Go.Proofs.Ytlhbpnealboagaa
open Go.RowKit

abbrev plD : List (Int × Int) := [(3, 1000)]
abbrev plA : List (Int × Int) := [(0, 1000), (7, 1000)]
theorem plain_quote (L M s n b a : Int) (h1 : 0 ≤ L) (h2 : L ≤ M) (h3 : M ≤ 100000000) (h4 : 1 ≤ s) (h5 : s ≤ 100000) (h6 : 0 ≤ n) (hb : 0 ≤ b ∧ b ≤ 1000) (ha : 0 ≤ a ∧ a ≤ 400) (hm : Pri.low L s + n * s ≤ M) :
    Pri.quote ⟨L, M, s, plD, plA⟩ (Pri.low L s + n * s) b a = (Pri.low L s + n * s, 0) := by
  have n1 : 0 ≤ n * s := Int.mul_nonneg h6 (by omega)
  have hl := Pri.low_ge (l := L) h4
  have p1 : Fix.pts plD = true := by decide
  have p2 : Fix.pts plA = true := by decide
  have p3 : Pri.yOk plD = true := by decide
  have p4 : Pri.yOk plA = true := by decide
  have p5 : ∀ i, i < plD.length → Fix.py plD i = 1000 := by decide
  have p6 : ∀ i, i < plA.length → Fix.py plA i = 1000 := by decide
  have hr : Pri.Right ⟨L, M, s, plD, plA⟩ := ⟨h1, h2, h3, h4, h5, by show Pri.low L s ≤ M; omega, p1, p3, p2, p4⟩
  have hf : Pri.facv ⟨L, M, s, plD, plA⟩ b a = 1000 := by
    unfold Pri.facv
    dsimp only
    rw [Fix.atv_const (c := 1000) (Fix.Inc.of_pts p1) (by decide) p5, Fix.atv_const (c := 1000) (Fix.Inc.of_pts p2) (by decide) p6]
    decide
  have h0 : (Pri.factor ⟨L, M, s, plD, plA⟩ b a).2 = 0 := by rw [factor_ok (Pri.right_iff.2 hr) (by omega)]
  rw [quote_ok h0 (by omega)]
  rw [Pri.qv_plain hr (k := (L + s - 1) / s + n) hf (by unfold Pri.low; rw [Int.add_mul]) (by show L ≤ _; omega) (by show _ ≤ M; omega)]

set_option maxHeartbeats 2000000 in
theorem lawPlain (L m st n b a : Int) (w : World) (hL : 0 ≤ L ∧ L ≤ 65535) (hM : 0 ≤ m ∧ m ≤ 65535) (hst : 0 ≤ st ∧ st ≤ 65535) (hn : 0 ≤ n ∧ n ≤ 255) (hb : 0 ≤ b ∧ b ≤ 65535) (ha : 0 ≤ a ∧ a ≤ 65535) :
    Calls Try.prog 9 #[.int .u16 L, .int .u16 m, .int .u16 st, .int .u8 n, .int .u16 b, .int .u16 a] w fun e w' => e = .returned (.bool true) ∧ Below w.heap.size w w' := by
  obtain ⟨L0, L1⟩ := hL
  obtain ⟨m0, m1⟩ := hM
  obtain ⟨t0, t1⟩ := hst
  obtain ⟨n0, n1⟩ := hn
  obtain ⟨b0, b1⟩ := hb
  obtain ⟨a0, a1⟩ := ha
  have hl := Pri.low_ge (l := L) (s := 1 + st) (by omega)
  unfold Pri.low at hl
  obtain ⟨l1, l2⟩ := hl
  have c1 : 0 ≤ (L + (1 + st) - 1) / (1 + st) := Int.ediv_nonneg (by omega) (by omega)
  have c2 : (L + (1 + st) - 1) / (1 + st) ≤ L + (1 + st) - 1 := Int.ediv_le_self _ (by omega)
  have d1 : 0 ≤ n * (1 + st) := Int.mul_nonneg n0 (by omega)
  have d2 : n * (1 + st) ≤ 255 * 65536 := Int.mul_le_mul n1 (by omega) (by omega) (by omega)
  by_cases hbig : L + m < (L + (1 + st) - 1) / (1 + st) * (1 + st) + n * (1 + st)
  · go_enter Try.func9, Try.ntmps9
    go_wp2_with fail
    refine (alive_any _).mono ?_
    rintro e w1 ⟨rfl, hb1⟩
    obtain ⟨hc1, hf1⟩ := bcell hb1; have z1 := hb1.size; (try simp at z1); have g1 : Below w.heap.size w w1 := thru (by go_grown) hb1 (by first | omega | (simp; done) | (simp; omega)); (try have s1 : w.heap.size < w1.heap.size := by omega); (try have t1_a1 : w.heap.size < w1.heap.size + 1 := by omega); (try have t1_a2 : w.heap.size < w1.heap.size + 1 + 1 := by omega)
    go_wp2
    go_ret
    exact ⟨rfl, by go_grown⟩
  · have HQ : Hid (Pri.quote ⟨L, L + m, 1 + st, plD, plA⟩ ((L + (1 + st) - 1) / (1 + st) * (1 + st) + n * (1 + st)) (b % 1001) (a % 401) = ((L + (1 + st) - 1) / (1 + st) * (1 + st) + n * (1 + st), 0)) := Lib.hid (plain_quote L (L + m) (1 + st) n (b % 1001) (a % 401) L0 (by omega) (by omega) (by omega) (by omega) n0 (by omega) (by omega) (by unfold Pri.low; omega))
    go_enter Try.func9, Try.ntmps9
    go_wp2_with fail
    refine (alive_any _).mono ?_
    rintro e w1 ⟨rfl, hb1⟩
    obtain ⟨hc1, hf1⟩ := bcell hb1; have z1 := hb1.size; (try simp at z1); have g1 : Below w.heap.size w w1 := thru (by go_grown) hb1 (by first | omega | (simp; done) | (simp; omega)); (try have s1 : w.heap.size < w1.heap.size := by omega); (try have t1_a1 : w.heap.size < w1.heap.size + 1 := by omega); (try have t1_a2 : w.heap.size < w1.heap.size + 1 + 1 := by omega)
    go_wp2_with fail
    refine (quote_any L (L + m) (1 + st) plD plA (some ⟨w1.heap.size, 0, none⟩) 1 (some ⟨w1.heap.size + 1, 0, none⟩) 2 _ (b % 1001) (a % 401) _ ?_ ?_ (by decide) (by decide)).mono ?_
    · exact fun _ => ⟨_, _, rfl, by simp; try omega, fun i hi => match i, hi with
        | 0, _ => ⟨by simp [go_sem, Fix.px], by simp [go_sem, Fix.py]⟩⟩
    · exact rdp_two (by simp; try omega) (by simp [go_sem]) (by simp [go_sem]) (by simp [go_sem]) (by simp [go_sem])
    rw [HQ.out]
    rintro e w2 ⟨rfl, hb2⟩
    obtain ⟨hc2, hf2⟩ := bcell hb2; have z2 := hb2.size; (try simp at z2); have g2 : Below w.heap.size w w2 := thru (by go_grown) hb2 (by first | omega | (simp; done) | (simp; omega)); (try have s2 : w.heap.size < w2.heap.size := by omega); (try have t2_a1 : w.heap.size < w2.heap.size + 1 := by omega); (try have t1_2_a1 : w1.heap.size < w2.heap.size + 1 := by omega); (try have t2_a2 : w.heap.size < w2.heap.size + 1 + 1 := by omega); (try have t1_2_a2 : w1.heap.size < w2.heap.size + 1 + 1 := by omega); (try have t2_a3 : w.heap.size < w2.heap.size + 1 + 1 + 1 := by omega); (try have t1_2_a3 : w1.heap.size < w2.heap.size + 1 + 1 + 1 := by omega); (try have t2_a4 : w.heap.size < w2.heap.size + 1 + 1 + 1 + 1 := by omega); (try have t1_2_a4 : w1.heap.size < w2.heap.size + 1 + 1 + 1 + 1 := by omega); (try have s2_p1 : w.heap.size + 1 < w2.heap.size := by omega); (try have s1_2_p1 : w1.heap.size + 1 < w2.heap.size := by omega); (try have s2_p2 : w.heap.size + 2 < w2.heap.size := by omega); (try have s1_2_p2 : w1.heap.size + 2 < w2.heap.size := by omega); (try have s1_2 : w1.heap.size < w2.heap.size := by omega)
    go_wp2
    go_ret
    exact ⟨rfl, by go_grown⟩
end Go.Proofs.Ytlhbpnealboagaa
