/-
  The least power of pumps that deliver enough.
-/
import Derived.Test.YtljhocdbfbjpiaaWtPumpC
namespace Go.Proofs.Ytljhocdbfbjpiaa
open Go.RowKit

theorem pow8 {n : Nat} (hn : n ≤ 8) : 2 ^ n ≤ 256 := Nat.pow_le_pow_right (by decide) hn
theorem two_pow8 {n : Nat} (hn : n ≤ 8) : wrap64 ((2 : Int) ^ n) = ((2 ^ n : Nat) : Int) := by
  have := pow8 hn
  have e : ((2 : Int) ^ n) = ((2 ^ n : Nat) : Int) := by simp
  rw [e]
  generalize 2 ^ n = m at *
  unfold wrap64; omega
/-- What the best choice of pumps is: the power P, or the error E. -/
def BestP (n : Nat) (f : Nat → Nat → Int) (flow P E : Int) : Prop :=
  (E = 0 ∧ (∃ ch, flow ≤ chS f 1 ch n ∧ P = chS f 2 ch n) ∧ ∀ ch, flow ≤ chS f 1 ch n → P ≤ chS f 2 ch n) ∨
  (E = 9 ∧ P = 0 ∧ ∀ ch, chS f 1 ch n < flow)
theorem chS_all {f : Nat → Nat → Int} {col n : Nat} (hf : ∀ i, i < n → 0 ≤ f i col) (ch : List Int) : ∀ m, m ≤ n → chS f col ch m ≤ chS f col (Wt.memL n (2 ^ n - 1)) m
  | 0, _ => Int.le_refl _
  | m + 1, h => by
    have ih := chS_all hf ch m (by omega)
    have h0 := hf m (by omega)
    have hin : (m : Int) ∈ Wt.memL n (2 ^ n - 1) := Wt.mem_memL.2 ⟨by omega, by rw [Nat.testBit_two_pow_sub_one]; simp; omega⟩
    simp only [chS]
    rw [if_pos hin]
    split <;> omega

set_option maxRecDepth 20000 in
set_option maxHeartbeats 8000000 in
theorem pumpbest_any (n c : Nat) (f : Nat → Nat → Int) (flow : Int) (A : Option Addr) (w : World) (hR : RI w A 3 n f) (hn : n ≤ 8) (hf1 : ∀ i, i < n → 0 ≤ f i 1 ∧ f i 1 ≤ 100000000) (hf2 : ∀ i, i < n → 0 ≤ f i 2 ∧ f i 2 ≤ 100000000) (hfl : 0 ≤ flow) :
    Calls Try.prog 64 #[.slice A n c, .int .i64 flow] w fun e w' => (∃ v P E, e = .returned (.tuple #[v, .int .i64 P, .int .i64 E]) ∧ BestP n f flow P E) ∧ Below w.heap.size w w' := by
  have h0 : decide (flow < 0) = false := decide_eq_false (by omega)
  have h8 : decide ((8 : Int) < (n : Int)) = false := decide_eq_false (by omega)
  have hsh := two_pow8 hn
  have hp8 := pow8 hn
  obtain ⟨N, hN⟩ : ∃ N, N = 2 ^ n := ⟨_, rfl⟩
  have hNp : 0 < N := by rw [hN]; exact Nat.two_pow_pos n
  rw [← hN] at hsh hp8
  obtain ⟨M, hM⟩ : ∃ M, M = N - 1 := ⟨_, rfl⟩
  have hMN : N = M + 1 := by omega
  have e1 : wrap64 ((N : Int) - 1) = (M : Int) := by unfold wrap64; omega
  have hmn : min n 64 = n := by omega
  have hMlt : M < 2 ^ n := by rw [← hN]; omega
  have hallE : Wt.memL n M = Wt.memL n (2 ^ n - 1) := by rw [hM, hN]
  have hlenM : ∀ s, (Wt.memL n s).length ≤ 100 := fun s => by have := Wt.memL_len n s; omega
  have hall1 : ∀ ch, chS f 1 ch n ≤ chS f 1 (Wt.memL n M) n := fun ch => by rw [hallE]; exact chS_all (fun i hi => (hf1 i hi).1) ch n (Nat.le_refl _)
  have hset : ∀ ch, ∃ s, s ≤ M ∧ chS f 1 (Wt.memL n s) n = chS f 1 ch n ∧ chS f 2 (Wt.memL n s) n = chS f 2 ch n := fun ch => ⟨Wt.setOf ch n, by have := Wt.setOf_lt ch n; omega, chS_set f 1 ch n n (Nat.le_refl _), chS_set f 2 ch n n (Nat.le_refl _)⟩
  have HR := Lib.hid hR
  have HF1 := Lib.hid hf1
  have HF2 := Lib.hid hf2
  have HNN := Lib.hid hn
  have HMLT := Lib.hid hMlt
  have HLEN := Lib.hid hlenM
  have HALL := Lib.hid hall1
  have HSET := Lib.hid hset
  have HM8 : Hid (M ≤ 255) := Lib.hid (by omega)
  have hm8 : (M : Int) ≤ 255 := by omega
  obtain ⟨F, hF⟩ : ∃ F : Nat → Int, F = fun s => chS f 1 (Wt.memL n s) n := ⟨_, rfl⟩
  obtain ⟨G, hG⟩ : ∃ G : Nat → Int, G = fun s => chS f 2 (Wt.memL n s) n := ⟨_, rfl⟩
  have hFs : ∀ s, chS f 1 (Wt.memL n s) n = F s := fun s => by rw [hF]
  have hGs : ∀ s, chS f 2 (Wt.memL n s) n = G s := fun s => by rw [hG]
  have HFS := Lib.hid hFs
  have HGS := Lib.hid hGs
  clear hR hf1 hf2 hN hM hMlt hallE hlenM hall1 hset hfl hp8 hNp hF hG hFs hGs hn hMN
  go_enter Try.func64, Try.ntmps64
  go_wp2_with fail
  refine (members_any n M _ HNN.out HMLT.out).mono ?_
  rintro e w1 ⟨A1, c1, rfl, ho1, hb1⟩
  have HB1 := Lib.hid hb1
  have HO1 := Lib.hid ho1.rd
  clear hb1 ho1
  have hC := pflow_any n c _ c1 f (Wt.memL n M) A A1 w1 (HR.out.below HB1.out) HO1.out HNN.out (HLEN.out M) rfl HF1.out
  rw [HFS.out] at hC
  have HC := Lib.hid hC
  clear hC
  by_cases hsm : F M < flow
  · go_wp2_with fail
    refine HC.out.mono ?_
    rintro e w2 ⟨rfl, hb2⟩
    have HB2 := Lib.hid (thru HB1.out hb2 HB1.out.size)
    have HSM := Lib.hid hsm
    clear hb2 HC
    go_wp2
    refine bodyPost_ret (results_tmp3 rfl _ _ _) rfl ?_
    refine ⟨⟨_, _, _, rfl, .inr ⟨rfl, rfl, fun ch => ?_⟩⟩, HB2.out⟩
    have := HALL.out ch
    rw [HFS.out] at this
    have := HSM.out
    omega
  · have hsmf : decide (F M < flow) = false := decide_eq_false hsm
    have HSM := Lib.hid hsm
    clear hsm
    go_wp2_with fail
    refine HC.out.mono ?_
    rintro e w2 ⟨rfl, hb2⟩
    have HB2 := Lib.hid (thru HB1.out hb2 HB1.out.size)
    have HO2 := Lib.hid (HO1.out.below hb2)
    clear hb2 HC
    have hC := ppow_any n c _ c1 f (Wt.memL n M) A A1 w2 (HR.out.below HB2.out) HO2.out HNN.out (HLEN.out M) rfl HF2.out
    rw [HGS.out] at hC
    have HC := Lib.hid hC
    clear hC
    go_wp2_with fail
    refine HC.out.mono ?_
    rintro e w3 ⟨rfl, hb3⟩
    have HB3 := Lib.hid (thru HB2.out hb3 HB2.out.size)
    have HO3 := Lib.hid (HO2.out.below hb3)
    clear hb3 HC
    go_wp2
    go_loopw [8, 9, 33] (fun b l i wr => ∃ (k s : Nat) (Ab : Option Addr) (cb : Nat), k ≤ M ∧ i = .int .i64 k ∧ b = .slice Ab (Wt.memL n s).length cb ∧ l = .int .i64 (G s) ∧ Rd wr Ab (Wt.memL n s) ∧ Hid (flow ≤ F s ∧ G s ≤ G M ∧ ∀ t, t < k → flow ≤ F t → G s ≤ G t) ∧ Below w.heap.size w wr) (fun _ _ i _ => M - (intOf i).toNat)
    case atStart => exact ⟨0, M, A1, c1, Nat.zero_le _, rfl, rfl, rfl, HO3.out, Lib.hid ⟨by have := HSM.out; omega, Int.le_refl _, fun t ht => absurd ht (by omega)⟩, HB3.out⟩
    case round =>
      obtain ⟨k, s, Ab, cb, hk, rfl, rfl, rfl, hRd, HS, hb⟩ := hrel
      have HB := Lib.hid hb
      have HRD := Lib.hid hRd
      clear hb hRd
      by_cases hlt : k < M
      · have hlti : (k : Int) < (M : Int) := by omega
        have HLT := Lib.hid hlt
        have hC := members_any n k wr HNN.out (by have := HMLT.out; omega)
        have HC := Lib.hid hC
        clear hC hlt
        go_wp2_with fail
        refine HC.out.mono ?_
        rintro e w4 ⟨A4, c4, rfl, ho4, hb4⟩
        have HB4 := Lib.hid (thru HB.out hb4 HB.out.size)
        have HO4 := Lib.hid ho4.rd
        have HRD4 := Lib.hid (HRD.out.below hb4)
        clear hb4 ho4 HC
        have hC := pflow_any n c _ c4 f (Wt.memL n k) A A4 w4 (HR.out.below HB4.out) HO4.out HNN.out (HLEN.out k) rfl HF1.out
        rw [HFS.out] at hC
        have HC := Lib.hid hC
        clear hC
        by_cases hfk : F k < flow
        · have HV : Hid (flow ≤ F s ∧ G s ≤ G M ∧ ∀ t, t < k + 1 → flow ≤ F t → G s ≤ G t) := Lib.hid ⟨HS.out.1, HS.out.2.1, fun t ht h => by
            by_cases e : t = k
            · subst e; omega
            · exact HS.out.2.2 t (by omega) h⟩
          go_wp2_with fail
          refine HC.out.mono ?_
          rintro e w5 ⟨rfl, hb5⟩
          have HB5 := Lib.hid (thru HB4.out hb5 HB4.out.size)
          have HRD5 := Lib.hid (HRD4.out.below hb5)
          clear hb5 HC
          go_wp2
          go_roundw
          case rel => exact ⟨k + 1, s, Ab, cb, HLT.out, by go_num, rfl, rfl, HRD5.out, HV, HB5.out⟩
          case measure => have := HLT.out; simp [intOf]; omega
        · have hfkf : decide (F k < flow) = false := decide_eq_false hfk
          have HFK := Lib.hid hfk
          clear hfk
          go_wp2_with fail
          refine HC.out.mono ?_
          rintro e w5 ⟨rfl, hb5⟩
          have HB5 := Lib.hid (thru HB4.out hb5 HB4.out.size)
          have HRD5 := Lib.hid (HRD4.out.below hb5)
          have HO5 := Lib.hid (HO4.out.below hb5)
          clear hb5 HC
          have hC := ppow_any n c _ c4 f (Wt.memL n k) A A4 w5 (HR.out.below HB5.out) HO5.out HNN.out (HLEN.out k) rfl HF2.out
          rw [HGS.out] at hC
          have HC := Lib.hid hC
          clear hC
          have hbet : G k ≤ G s → (flow ≤ F k ∧ G k ≤ G M ∧ ∀ t, t < k + 1 → flow ≤ F t → G k ≤ G t) := fun h => ⟨by have := HFK.out; omega, by have := HS.out.2.1; omega, fun t ht h' => by
            by_cases e : t = k
            · subst e; omega
            · have := HS.out.2.2 t (by omega) h'
              omega⟩
          have hkeep : G s ≤ G k → (flow ≤ F s ∧ G s ≤ G M ∧ ∀ t, t < k + 1 → flow ≤ F t → G s ≤ G t) := fun h => ⟨HS.out.1, HS.out.2.1, fun t ht h' => by
            by_cases e : t = k
            · subst e; omega
            · exact HS.out.2.2 t (by omega) h'⟩
          have HBET := Lib.hid hbet
          have HKEEP := Lib.hid hkeep
          clear hbet hkeep
          by_cases hlt2 : G k < G s
          · have HV := Lib.hid (HBET.out (by omega))
            go_wp2_with fail
            refine HC.out.mono ?_
            rintro e w6 ⟨rfl, hb6⟩
            have HB6 := Lib.hid (thru HB5.out hb6 HB5.out.size)
            have HO6 := Lib.hid (HO5.out.below hb6)
            clear hb6 HC
            go_wp2
            go_roundw
            case rel => exact ⟨k + 1, k, A4, c4, HLT.out, by go_num, rfl, rfl, HO6.out, HV, HB6.out⟩
            case measure => have := HLT.out; simp [intOf]; omega
          · have hlt2f : decide (G k < G s) = false := decide_eq_false hlt2
            by_cases heq : G k = G s
            · have heqb : (G k == G s) = true := beq_iff_eq.2 heq
              have HV1 := Lib.hid (HBET.out (by omega))
              have HV2 := Lib.hid (HKEEP.out (by omega))
              clear hlt2 heq
              go_wp2_with fail
              refine HC.out.mono ?_
              rintro e w6 ⟨rfl, hb6⟩
              have HB6 := Lib.hid (thru HB5.out hb6 HB5.out.size)
              have HO6 := Lib.hid (HO5.out.below hb6)
              have HRD6 := Lib.hid (HRD5.out.below hb6)
              clear hb6 HC
              have hC := compare_any (Wt.memL n k) (Wt.memL n s) _ _ c4 cb A4 Ab w6 HO6.out HRD6.out (HLEN.out k) rfl rfl
              have HC := Lib.hid hC
              clear hC
              go_wp2_with fail
              refine HC.out.mono ?_
              rintro e w7 ⟨⟨r, rfl⟩, rfl⟩
              clear HC
              by_cases hr : r < 0
              · go_wp2
                go_roundw
                case rel => exact ⟨k + 1, k, A4, c4, HLT.out, by go_num, rfl, rfl, HO6.out, HV1, HB6.out⟩
                case measure => have := HLT.out; simp [intOf]; omega
              · have hrf : decide (r < 0) = false := decide_eq_false hr
                go_wp2
                go_roundw
                case rel => exact ⟨k + 1, s, Ab, cb, HLT.out, by go_num, rfl, rfl, HRD6.out, HV2, HB6.out⟩
                case measure => have := HLT.out; simp [intOf]; omega
            · have heqb : (G k == G s) = false := beq_eq_false_iff_ne.2 heq
              have HV2 := Lib.hid (HKEEP.out (by omega))
              clear hlt2 heq
              go_wp2_with fail
              refine HC.out.mono ?_
              rintro e w6 ⟨rfl, hb6⟩
              have HB6 := Lib.hid (thru HB5.out hb6 HB5.out.size)
              have HRD6 := Lib.hid (HRD5.out.below hb6)
              clear hb6 HC
              go_wp2
              go_roundw
              case rel => exact ⟨k + 1, s, Ab, cb, HLT.out, by go_num, rfl, rfl, HRD6.out, HV2, HB6.out⟩
              case measure => have := HLT.out; simp [intOf]; omega
      · have hlti : decide ((k : Int) < (M : Int)) = false := decide_eq_false (by omega)
        have hfin : BestP n f flow (G s) 0 := .inl ⟨rfl, ⟨Wt.memL n s, by rw [HFS.out]; exact HS.out.1, (HGS.out s).symm⟩, fun ch h => by
          obtain ⟨t, h1, h2, h3⟩ := HSET.out ch
          rw [HFS.out] at h2
          rw [HGS.out] at h3
          rw [← h3]
          rcases Nat.lt_or_ge t k with htk | htk
          · exact HS.out.2.2 t htk (by rw [h2]; exact h)
          · have : t = M := by omega
            rw [this]; exact HS.out.2.1⟩
        have HFIN := Lib.hid hfin
        clear hfin
        go_wp2
        refine bodyPost_ret (results_tmp3 rfl _ _ _) rfl ?_
        exact ⟨⟨_, _, _, rfl, HFIN.out⟩, HB.out⟩
end Go.Proofs.Ytljhocdbfbjpiaa
