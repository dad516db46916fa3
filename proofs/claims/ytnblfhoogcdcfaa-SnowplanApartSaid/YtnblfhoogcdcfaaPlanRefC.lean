/-
  The walk of the reference's search, which calls itself.
-/
import Derived.Test.YtnblfhoogcdcfaaPlanRefB
namespace Go.Proofs.Ytnblfhoogcdcfaa
open Go.RowKit

set_option maxRecDepth 4000 in
set_option maxHeartbeats 16000000 in
theorem plans_one (gs : List Plan.Gun) (hq : Plan.Hour) (hs : List Plan.Hour)
    (ih0 : ∀ (left : Int) (A B : Option Addr) (c d : Nat) (w : World), Plan.Acc gs hs → 0 ≤ left → left ≤ 9223372036854775807 → hs.length ≤ d → RdG w A gs → RdH w B hs → Calls Try.prog 27 #[.slice A gs.length c, .slice B hs.length d, .int .i64 left] w (PlansPost w gs hs left))
    (left : Int) (A B : Option Addr) (c : Nat) (w : World) (ha : Plan.Acc gs (hq :: hs)) (h0 : 0 ≤ left) (h1 : left ≤ 9223372036854775807) (hd : (hq :: hs).length ≤ 1) (hG : RdG w A gs) (hH : RdH w B (hq :: hs)) :
    Calls Try.prog 27 #[.slice A gs.length c, .slice B (hq :: hs).length 1, .int .i64 left] w (PlansPost w gs (hq :: hs) left) := by
    obtain ⟨b, off, rfl, hbz, -⟩ := hH (by simp)
    have IH := Lib.hid ih0
    have HA := Lib.hid ha
    have HL := Lib.hid (And.intro h0 h1)
    have HG := Lib.hid hG
    have HH := Lib.hid hH
    have hl3 : hs.length ≤ 2 := by have := ha.hl; simp at this; omega
    have hg5 := ha.gl
    have hsh := two_pow hg5
    have hN32 := pow5 hg5
    obtain ⟨N, hN⟩ : ∃ N, N = 2 ^ gs.length := ⟨_, rfl⟩
    rw [← hN] at hsh hN32
    have hGR : Plan.gr gs (hq :: hs) left = Plan.grTo gs hq hs left N := by rw [hN]; rfl
    unfold PlansPost
    rw [hGR]
    have HN := Lib.hid hN
    obtain ⟨i0, hi0, hz0, hz1, hz2⟩ := info_parts plan_info
    have HI := Lib.hid (And.intro hi0 (And.intro hz0 (And.intro hz1 hz2)))
    clear hi0 hz0 hz1 hz2
    obtain ⟨n1, hn1⟩ : ∃ n1, n1 = (hq :: hs).length := ⟨_, rfl⟩
    have hn1' : n1 = hs.length + 1 := by rw [hn1]; simp
    rw [← hn1]
    have hnd : n1 ≤ 1 := by rw [hn1]; exact hd
    have hneq : ((n1 : Int) == 0) = false := beq_eq_false_iff_ne.2 (by omega)
    have hn0 : (0 : Int) < (n1 : Int) := by omega
    have hn3 : (n1 : Int) ≤ 3 := by omega
    have HN1 := Lib.hid hn1'
    have HPOS := Lib.hid (Plan.gr_bd ha h0)
    rw [hGR] at HPOS
    clear ih0 ha h0 h1 hG hH hd hN hn1 hn1' hGR
    have hnd' : n1 ≤ 1 := hnd
    clear hnd
    go_enter Try.func27, Try.ntmps27
    go_wp2
    go_loopw [8, 9, 10] (fun i8 i9 i wr => ∃ (s : Nat) (xs : List Value), s ≤ N ∧ i = .int .i64 s ∧ i9 = .int .i64 (Plan.grTo gs hq hs left s) ∧ (Plan.grTo gs hq hs left s = -1 ∨ (wr.ownsRow w.heap.size 45 1 i8 n1 xs ∧ ∀ u ∈ xs, u.oneCell' = true)) ∧ -1 ≤ Plan.grTo gs hq hs left s ∧ Below w.heap.size w wr) (fun _ _ i _ => N - (intOf i).toNat)
    case atStart => exact ⟨0, [], Nat.zero_le _, rfl, rfl, .inl rfl, Int.le_refl _, Below.refl _ _⟩
    case round =>
      obtain ⟨s, xs, hs', rfl, rfl, hrow, hm1, hb⟩ := hrel
      have HROW := Lib.hid hrow
      have HB := Lib.hid hb
      clear hrow hb
      obtain ⟨m, hm⟩ : ∃ m, m = Plan.grTo gs hq hs left s := ⟨_, rfl⟩
      rw [← hm] at hm1 HROW ⊢
      have HM := Lib.hid hm
      clear hm
      by_cases hsl : s < N
      · have hs2 : s < 2 ^ gs.length := by rw [← HN.out]; exact hsl
        have hsl32 : (s : Int) < 32 := by omega
        have HSL := Lib.hid hsl
        have HS2 := Lib.hid hs2
        have HSTEP := Lib.hid (Plan.grTo_succ gs hq hs left s)
        obtain ⟨⟨u0, u1⟩, ⟨u2, u3⟩, ⟨u4, u5⟩⟩ := Plan.uV_bd HA.out s
        obtain ⟨V, hV⟩ : ∃ V, V = Plan.uV gs hq s := ⟨_, rfl⟩
        obtain ⟨X, hX⟩ : ∃ X, X = Plan.uW gs s := ⟨_, rfl⟩
        obtain ⟨P, hP⟩ : ∃ P, P = Plan.uP gs s := ⟨_, rfl⟩
        obtain ⟨po, hpo⟩ : ∃ po, po = hq.power := ⟨_, rfl⟩
        have HU := Lib.hid (And.intro hV (And.intro hX (And.intro hP hpo)))
        rw [← hV] at u0 u1
        rw [← hX] at u2 u3
        rw [← hP] at u4 u5
        clear hs2 hV hX hP hpo
        go_wp2_with fail
        refine (choice_any gs s A c _ hg5 HS2.out).mono ?_
        rintro e w2 ⟨A1, c1, rfl, ho1, hb1⟩
        have HB2 := Lib.hid (thru HB.out hb1 HB.out.size)
        have HC2 := Lib.hid hb1
        have HO1 := Lib.hid ho1.rd
        clear ho1 hb1
        go_wp2_with fail
        have hb0 := HB2.out.alloc HB2.out.size (.cells #[.slice A1 (Plan.memL gs.length s).length c1] 45)
        have hL1 : RdL (w2.alloc (.cells #[.slice A1 (Plan.memL gs.length s).length c1] 45)) (some ⟨w2.heap.size, 0, none⟩) [Plan.memL gs.length s] := fun _ => by
          refine ⟨w2.heap.size, 0, rfl, by simp, fun i hi => ?_⟩
          obtain rfl : i = 0 := by simp at hi; omega
          exact ⟨A1, c1, by simp [go_sem, Plan.lAt], by simpa [Plan.lAt] using HO1.out.below (Joins.below_alloc1 _ _)⟩
        have hc3 := rworth_any gs [hq] [Plan.memL gs.length s] A (some ⟨b, off, none⟩) (some ⟨w2.heap.size, 0, none⟩) c 1 1 (w2.alloc (.cells #[.slice A1 (Plan.memL gs.length s).length c1] 45)) (Plan.acc_head HA.out) (HG.out.below hb0) (HH.out.head.below hb0) hL1
        rw [Plan.worth_one] at hc3
        dsimp only at hc3
        rw [← HU.out.1, ← HU.out.2.1] at hc3
        have HC3 := Lib.hid hc3
        have HB0 := Lib.hid hb0
        have HO2 := Lib.hid (HO1.out.below (Joins.below_alloc1 w2 (.cells #[.slice A1 (Plan.memL gs.length s).length c1] 45)))
        clear hc3 hL1 hb0 HO1
        refine HC3.out.mono ?_
        rintro e w3 ⟨rfl, hb3⟩
        have HB3 := Lib.hid (thru HB0.out hb3 HB0.out.size)
        have HC3' := Lib.hid (thru (HC2.out.alloc HC2.out.size _) hb3 (by have := HC2.out.size; simp; omega))
        have HO3 := Lib.hid (HO2.out.below hb3)
        clear hb3 HC3 HB0 HO2
        by_cases hx : X ≤ left
        · have dx : decide (left < X) = false := decide_eq_false (by omega)
          obtain ⟨b', off', ee, hbz3, hh0⟩ := (HH.out.below HB3.out) (by simp)
          injection ee with ee
          injection ee with ee1 ee2
          subst ee1 ee2
          have hp0 := (hh0 0 (by simp)).c0
          have eh : (Plan.hAt (hq :: hs) 0).power = hq.power := rfl
          rw [eh, ← HU.out.2.2.2, Nat.zero_mul, Nat.add_zero] at hp0
          clear hh0 eh
          have HPW : Hid (∀ n, Calls Try.prog 26 #[.slice A gs.length c, .slice A1 (Plan.memL gs.length s).length c1] (w3.drewN n) fun e w' => e = .returned (.int .i64 P) ∧ w3.drewN n = w') := Lib.hid (fun n => by
            rw [HU.out.2.2.1]
            exact power_any gs [hq] (Plan.memL gs.length s) A A1 c c1 (w3.drewN n) (Plan.acc_head HA.out) Plan.memL_ok ((HG.out.below HB3.out).below (Joins.below_draws _ _ _)) (HO3.out.below (Joins.below_draws _ _ _)))
          by_cases hp : P ≤ po
          · have dp : decide (po < P) = false := decide_eq_false (by omega)
            go_wp2_with fail
            go_quiet ((go_at_call 26; with_reducible exact quiet_left (HPW.out _)))
            have hyes : Plan.fit gs hq left s = true := Plan.fit_iff.2 ⟨by rw [← HU.out.2.1]; exact hx, by rw [← HU.out.2.2.1, ← HU.out.2.2.2]; exact hp⟩
            have hm2 : Plan.grTo gs hq hs left (s + 1) = max m (V + Plan.gr gs hs (left - X)) := by rw [HSTEP.out, if_pos hyes, ← HM.out, ← HU.out.1, ← HU.out.2.1]
            have hGb := Plan.gr_bd (Plan.acc_tail HA.out) (show 0 ≤ left - X by omega)
            have w1 : IntKind.i64.wrap (left - X) = left - X := IntWalk.i64_in _ (by have := HL.out; omega)
            obtain ⟨G, hG⟩ : ∃ G, G = Plan.gr gs hs (left - X) := ⟨_, rfl⟩
            rw [← hG] at hm2 hGb
            have hGb2 : 0 ≤ G ∧ G ≤ 10000000000 := ⟨hGb.1, Int.le_trans hGb.2 (by omega)⟩
            have w2' : IntKind.i64.wrap (V + G) = V + G := IntWalk.i64_in _ (by omega)
            have HM2 := Lib.hid hm2
            have HGe := Lib.hid hG
            have HB4 := Lib.hid (HB3.out.trans (Joins.below_draws w.heap.size w3 nq))
            have HC4 := Lib.hid (HC3'.out.trans (Joins.below_draws wr.heap.size w3 nq))
            have en1 : n1 - 1 = hs.length := by have := HN1.out; omega
            have HX := Lib.hid (And.intro u2 (And.intro hx hGb2))
            clear hyes hm2 hG hGb u2 u3 u4 u5 hp0 dp dx
            go_wp2_with fail
            all_goals
              refine (IH.out (left - X) A _ c _ _ (Plan.acc_tail HA.out) (by have := HX.out.2.1; omega) (by have := HL.out.2; have := HX.out.1; omega) (by have := HN1.out; omega) (HG.out.below HB4.out) (by
                first
                  | exact (HH.out.tail.below HB4.out)
                  | exact fun hp => absurd hp (by have := HN1.out; omega))).mono ?_
              unfold PlansPost
              rw [← HGe.out]
              rintro e w4 ⟨v, ys, rfl, hrow4, hone4, hnil4, hb4⟩
              have HR4 := Lib.hid (And.intro hrow4 (And.intro hone4 hnil4))
              have HB5 := Lib.hid (thru HB4.out hb4 HB4.out.size)
              have HC5 := Lib.hid (thru HC4.out hb4 HC4.out.size)
              clear hrow4 hone4 hnil4 hb4
              by_cases hgt : m < V + G
              · have hm3 : V + G = Plan.grTo gs hq hs left (s + 1) := by rw [HM2.out]; omega
                have HM3 := Lib.hid hm3
                clear hm3
                cases hs with
                | nil =>
                  obtain rfl : v = .slice none 0 0 := HR4.out.2.2 rfl
                  go_wp2
                  go_roundw
                  case rel =>
                    have e1 : n1 = 1 := by have := HN1.out; simpa using this
                    exact ⟨s + 1, [.slice A1 (Plan.memL gs.length s).length c1], HSL.out, by go_num, by rw [← HM3.out], .inr ⟨by rw [e1]; exact own_one w4 _ _ HB5.out.size, by simp [Value.oneCell']⟩, by rw [← HM3.out]; omega, HB5.out.alloc HB5.out.size _⟩
                  case measure => have := HSL.out; simp [intOf]; omega
                | cons hr hrs =>
                  obtain ⟨g, cap, cur, hv, -⟩ := HR4.out.1.2.resolve_left (fun h => by have := h.2; simp at this)
                  subst hv
                  have hys : ys.length = (hr :: hrs).length * 1 := HR4.out.1.1
                  have hyc := HR4.out.1.cells (g := g) rfl
                  have HYC := Lib.hid hyc
                  have HYS := Lib.hid hys
                  clear hyc hys
                  go_wp2_with (first
                    | (at_builtin; refine wpList_append_lies _ rfl (.tmp 72) (.tmp 73) 28 rfl w.heap.size 45 i0 _ 1 24 Try.underlying28 HI.out.1 HI.out.2.1 HI.out.2.2.1 HI.out.2.2.2 rfl (by omega) (.slice (some ⟨w4.heap.size, 0, none⟩) 1 1) 1 [.slice A1 (Plan.memL gs.length s).length c1] rfl (own_one w4 (.slice A1 (Plan.memL gs.length s).length c1) 45 HB5.out.size) ⟨g, 0, none⟩ (hr :: hrs).length cap ys rfl HYS.out (fun j u hj => (heap_alloc_old_cell w4 _ (HR4.out.1.lt g rfl).2 j).trans (HYC.out j u hj)) HR4.out.2.1 (by simp) (by simp only [maxLen]; omega) (by omega) (by have := HB5.out.size; simp; omega) _ rfl ?_; intro g2 cap2 w5 hown5 hgrow5 hat5 hlt5)
                    | go_in)
                  go_roundw
                  case rel =>
                    have e1 : n1 = 1 + (hr :: hrs).length := by have := HN1.out; omega
                    refine ⟨s + 1, [.slice A1 (Plan.memL gs.length s).length c1] ++ ys, HSL.out, by go_num, by rw [← HM3.out], .inr ⟨by rw [e1]; exact hown5, fun u hu => ?_⟩, by rw [← HM3.out]; omega, (HB5.out.alloc HB5.out.size _).grown hgrow5 (by have := HB5.out.size; simp; omega) (fun j hj => by have := HB5.out.size; simp [Value.ownBlock] at hj; omega)⟩
                    rcases List.mem_append.1 hu with hu | hu
                    · simp at hu; rw [hu]; rfl
                    · exact HR4.out.2.1 u hu
                  case measure => have := HSL.out; simp [intOf]; omega
              · have hm3 : m = Plan.grTo gs hq hs left (s + 1) := by rw [HM2.out]; omega
                have HM3 := Lib.hid hm3
                clear hm3
                go_wp2
                go_roundw
                case rel =>
                  refine ⟨s + 1, xs, HSL.out, by go_num, by rw [← HM3.out], ?_, by rw [← HM3.out]; exact hm1, HB5.out⟩
                  rw [← HM3.out]
                  exact HROW.out.imp id fun h => ⟨owns_below h.1 HC5.out, h.2⟩
                case measure => have := HSL.out; simp [intOf]; omega
          · have dp : decide (po < P) = true := decide_eq_true (by omega)
            have hno : Plan.fit gs hq left s = false := by
              cases e : Plan.fit gs hq left s
              · rfl
              · have := (Plan.fit_iff.1 e).2; rw [← HU.out.2.2.1, ← HU.out.2.2.2] at this; omega
            have hm2 : m = Plan.grTo gs hq hs left (s + 1) := by rw [HSTEP.out, if_neg (by rw [hno]; decide)]; exact HM.out
            have HM2 := Lib.hid hm2
            clear hno hm2
            go_wp2_with fail
            go_quiet ((go_at_call 26; with_reducible exact quiet_left (HPW.out _)))
            go_wp2
            go_roundw
            case rel =>
              have hbf := HB3.out.trans (Joins.below_draws w.heap.size w3 nq)
              refine ⟨s + 1, xs, HSL.out, by go_num, by rw [← HM2.out], ?_, by rw [← HM2.out]; exact hm1, hbf⟩
              rw [← HM2.out]
              exact HROW.out.imp id fun h => ⟨owns_below h.1 (HC3'.out.trans (Joins.below_draws _ _ _)), h.2⟩
            case measure => have := HSL.out; simp [intOf]; omega
        · have dx : decide (left < X) = true := decide_eq_true (by omega)
          have hno : Plan.fit gs hq left s = false := by
            cases e : Plan.fit gs hq left s
            · rfl
            · have := (Plan.fit_iff.1 e).1; rw [← HU.out.2.1] at this; omega
          have hm2 : m = Plan.grTo gs hq hs left (s + 1) := by rw [HSTEP.out, if_neg (by rw [hno]; decide)]; exact HM.out
          have HM2 := Lib.hid hm2
          clear hno hm2
          go_wp2_with fail
          go_quiet (fail)
          go_wp2
          go_roundw
          case rel =>
            have hbf := HB3.out.trans (Joins.below_draws w.heap.size w3 nq)
            refine ⟨s + 1, xs, HSL.out, by go_num, by rw [← HM2.out], ?_, by rw [← HM2.out]; exact hm1, hbf⟩
            rw [← HM2.out]
            exact HROW.out.imp id fun h => ⟨owns_below h.1 (HC3'.out.trans (Joins.below_draws _ _ _)), h.2⟩
          case measure => have := HSL.out; simp [intOf]; omega
      · have hse : s = N := by omega
        have hfin : m = Plan.grTo gs hq hs left N := by rw [← hse]; exact HM.out
        have HFIN := Lib.hid hfin
        have hrow2 := HROW.out.resolve_left (by have := HPOS.out.1; rw [← hfin] at this; omega)
        have HR2 := Lib.hid hrow2
        clear hfin hse hrow2
        go_wp2
        go_ret2
        exact ⟨_, xs, by rw [← HFIN.out]; rfl, HR2.out.1, HR2.out.2, fun e => (by cases e), HB.out⟩
end Go.Proofs.Ytnblfhoogcdcfaa
