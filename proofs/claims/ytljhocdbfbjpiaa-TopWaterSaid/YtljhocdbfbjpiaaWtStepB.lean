/-
  The walk of a step whose arguments are in range.
-/
import Derived.Test.YtljhocdbfbjpiaaWtStore
namespace Go.Proofs.Ytljhocdbfbjpiaa
open Go.RowKit Go.Maps

theorem fillOK_of {f : Nat → Nat → Int} {n : Nat} {Q : Nat → Int} (h : PondOK f n) (hQ : ∀ i, i < n → 0 ≤ Q i ∧ Q i ≤ 20000000) : FillOK (tkF f Q n) n := fun i hi => by
  have h1 := h i hi
  have h2 := hQ i hi
  simp [tkF, hi]
  omega
theorem final_packs {u4 u5 ws n k : Nat} {W : World} {B : Option Addr} {F : Nat → Nat → Int} {v : Value} {L : List Value} (h : 0 < n → ∃ g, B = some ⟨g, 0, none⟩ ∧ OwnI u4 W g k n F) (hg : ∀ g, B = some ⟨g, 0, none⟩ → u4 ≤ g ∧ g < u5) (hs : ws + 1 < u4) : RI ((W.setCell ⟨u5, 8, none⟩ v).setCells (ws + 1) 0 L) B k n F := fun hp => by
  obtain ⟨g, e, ho⟩ := h hp
  have h1 := hg g e
  have h2 := ((ho.far (p := ⟨u5, 8, none⟩) (by show u5 ≠ g; omega) v).only (setCells_only (ws + 1) L 0 _) (by omega)).ri hp
  rw [e]
  exact h2
theorem step_results (tmps : Array Value) (W : World) (s1 : Nat) {v0 v1 v2 v3 v4 v5 : Value} {p l t wa lo en inn E : Int} (h6 : tmps.getD 6 undef = .pointer (some ⟨s1, 0, none⟩)) (h7 : tmps.getD 7 undef = .int .i64 E) (hb : BoxAt W s1 v0 v1 v2 v3 v4 v5 p l t wa lo en inn) :
    (results Try.f13 tmps).run Try.prog W = .ok (.tuple #[sysV v0 v1 v2 v3 v4 v5 p l t wa lo en inn, .int .i64 E]) W := by
  rw [Array.getD_eq_getD_getElem?] at h6 h7
  simp [results, Try.results13, h6, h7, go_sem, hb.c0, hb.c1, hb.c2, hb.c3, hb.c4, hb.c5, hb.c6, hb.c7, hb.c8, hb.c9, hb.c10, hb.c11, hb.c12]
theorem ownsMap_set {w : World} {b n : Nat} {D : DataW Unit} (h : w.ownsMap Try.prog 3 (plainElem Try.prog 3) b n D) {q : Addr} (v : Value) : (w.setCell q v).ownsMap Try.prog 3 (plainElem Try.prog 3) b n D := by
  obtain ⟨es, clock, hh, F, hs, hD⟩ := h
  refine ⟨es, clock, ?_, F, hs, hD⟩
  by_cases e : b = q.block
  · simp only [World.setCell, Array.getElem?_modify]
    rw [← e]
    simp [hh]
  · rw [Below.heap_setCell _ _ _ _ e]
    exact hh
theorem ownsMap_below {w w' : World} {b n : Nat} {D : DataW Unit} (h : w.ownsMap Try.prog 3 (plainElem Try.prog 3) b n D) (hb : Below w.heap.size w w') : w'.ownsMap Try.prog 3 (plainElem Try.prog 3) b n D := by
  have hlt := h.lt
  obtain ⟨es, clock, hh, F, hs, hD⟩ := h
  exact ⟨es, clock, (hb.block b hlt).trans hh, F, hs, hD⟩
theorem mm_bd {R a : Int} (hR : 0 ≤ R) (ha : 1 ≤ a) : 0 ≤ (if R / a < 1000 then R / a else 1000) ∧ (if R / a < 1000 then R / a else 1000) ≤ 1000 ∧ 0 ≤ (if R / a < 1000 then R / a else 1000) * a ∧ (if R / a < 1000 then R / a else 1000) * a ≤ R := by
  have h0 : 0 ≤ R / a := Int.ediv_nonneg hR (by omega)
  have h1 : R / a * a ≤ R := Int.ediv_mul_le R (by omega)
  have h2 : (if R / a < 1000 then R / a else 1000) ≤ R / a := by split <;> omega
  have h3 : 0 ≤ (if R / a < 1000 then R / a else 1000) := by split <;> omega
  refine ⟨h3, by split <;> omega, Int.mul_nonneg h3 (by omega), ?_⟩
  exact Int.le_trans (Int.mul_le_mul_of_nonneg_right h2 (by omega)) h1
theorem losS_succ (S : Sys) (wet sec : Int) (k : Nat) : losS S wet sec (k + 1) = losS S wet sec k + (runS S wet sec (S.fa k 0) S.ng - mmS S wet sec k * S.fa k 1) := (Int.add_assoc _ _ _).symm
theorem losS_bd {S : Sys} (hR : SysR S) {wet sec : Int} (s0 : 0 ≤ sec) (s1 : sec ≤ 3600) (hP : PackOK S) {k : Nat} (hk : k ≤ S.na) (hZ : SysZ S) : S.lo ≤ losS S wet sec k ∧ losS S wet sec k ≤ S.lo + 38400000 := by
  have h := sumN_bd (f := fun i => runS S wet sec (S.fa i 0) S.ng - mmS S wet sec i * S.fa i 1) (n := k) (lo := 0) (hi := 4800000) fun i hi => by
    have h1 := runS_bd hR (wet := wet) s0 s1 (S.fa i 0) S.ng
    have h2 := mm_bd h1.1 (hP i (by omega)).2.2.1
    have := hZ.ng
    have h3 : mmS S wet sec i * S.fa i 1 = (if runS S wet sec (S.fa i 0) S.ng / S.fa i 1 < 1000 then runS S wet sec (S.fa i 0) S.ng / S.fa i 1 else 1000) * S.fa i 1 := rfl
    rw [h3]
    omega
  have := hZ.na
  unfold losS
  omega
set_option maxRecDepth 100000 in
set_option maxHeartbeats 16000000 in
theorem step_main (S : Sys) (wet sec : Int) (w : World) (hM : SysM w S) (hZ : SysZ S) (hR : SysR S) (hPO : PondOK S.fp S.np) (hPA : PackOK S) (hN : NumOK S)
    (r1 : 1 ≤ sec) (r2 : sec ≤ 3600) (r3 : S.t + sec ≤ 20000000) (r4 : -1000 ≤ wet) (r5 : wet ≤ 1000) :
    Calls Try.prog 13 #[sysS S, .int .i64 wet, .int .i64 sec] w (StepPost S wet sec w) := by
  have HM := Lib.hid hM
  have HZ := Lib.hid hZ
  have HSR := Lib.hid hR
  have HPO := Lib.hid hPO
  have HPA := Lib.hid hPA
  have HN := Lib.hid hN
  have ht := hN.t
  have HR12 := Lib.hid (And.intro r1 r2)
  have hb0 : Below w.heap.size w (w.alloc (.cells #[.slice S.po S.np S.cp, .slice S.pu S.nu S.cu, .slice S.pi S.ni S.ci, .slice S.ki S.nk S.ck, .slice S.gu S.ng S.cg, .slice S.pa S.na S.ca, .int .i64 S.p, .int .i64 S.l, .int .i64 S.t, .int .i64 S.wa, .int .i64 S.lo, .int .i64 S.en, .int .i64 S.inn] 41)) := Joins.below_alloc1 _ _
  have HB0 := Lib.hid (hb0.alloc (by simp) (.cells #[.slice none 0 0, .slice none 0 0, .slice none 0 0, .slice none 0 0, .slice none 0 0, .slice none 0 0, .int .i64 0, .int .i64 0, .int .i64 0, .int .i64 0, .int .i64 0, .int .i64 0, .int .i64 0] 41))
  have HX0 := Lib.hid ((BoxAt.mk0 w (.slice S.po S.np S.cp) (.slice S.pu S.nu S.cu) (.slice S.pi S.ni S.ci) (.slice S.ki S.nk S.ck) (.slice S.gu S.ng S.cg) (.slice S.pa S.na S.ca) S.p S.l S.t S.wa S.lo S.en S.inn).below (Joins.below_alloc1 _ (.cells #[.slice none 0 0, .slice none 0 0, .slice none 0 0, .slice none 0 0, .slice none 0 0, .slice none 0 0, .int .i64 0, .int .i64 0, .int .i64 0, .int .i64 0, .int .i64 0, .int .i64 0, .int .i64 0] 41)))
  have hr0 := BoxAt.mk0 (w.alloc (.cells #[.slice S.po S.np S.cp, .slice S.pu S.nu S.cu, .slice S.pi S.ni S.ci, .slice S.ki S.nk S.ck, .slice S.gu S.ng S.cg, .slice S.pa S.na S.ca, .int .i64 S.p, .int .i64 S.l, .int .i64 S.t, .int .i64 S.wa, .int .i64 S.lo, .int .i64 S.en, .int .i64 S.inn] 41)) (.slice none 0 0) (.slice none 0 0) (.slice none 0 0) (.slice none 0 0) (.slice none 0 0) (.slice none 0 0) 0 0 0 0 0 0 0
  have hr1 : BoxAt ((w.alloc (.cells #[.slice S.po S.np S.cp, .slice S.pu S.nu S.cu, .slice S.pi S.ni S.ci, .slice S.ki S.nk S.ck, .slice S.gu S.ng S.cg, .slice S.pa S.na S.ca, .int .i64 S.p, .int .i64 S.l, .int .i64 S.t, .int .i64 S.wa, .int .i64 S.lo, .int .i64 S.en, .int .i64 S.inn] 41)).alloc (.cells #[.slice none 0 0, .slice none 0 0, .slice none 0 0, .slice none 0 0, .slice none 0 0, .slice none 0 0, .int .i64 0, .int .i64 0, .int .i64 0, .int .i64 0, .int .i64 0, .int .i64 0, .int .i64 0] 41)) (w.heap.size + 1) (.slice none 0 0) (.slice none 0 0) (.slice none 0 0) (.slice none 0 0) (.slice none 0 0) (.slice none 0 0) 0 0 0 0 0 0 0 := by simpa using hr0
  have HR0 := Lib.hid hr1
  have HWHY := Lib.hid (why_any S wet _ (hM.below HB0.out) hZ hR hN.p.1 hN.p.2)
  obtain ⟨t0, t1⟩ := ht
  clear hM hZ hR hPO hPA hN hb0 hr0 hr1
  have d1 : decide (sec < 1) = false := decide_eq_false (by omega)
  have d2 : decide (3600 < sec) = false := decide_eq_false (by omega)
  have d3 : decide (20000000 < S.t + sec) = false := decide_eq_false (by omega)
  have d4 : decide (wet < -1000) = false := decide_eq_false (by omega)
  have d5 : decide (1000 < wet) = false := decide_eq_false (by omega)
  go_enter Try.func13, Try.ntmps13
  go_wp2_with fail
  refine HWHY.out.mono ?_
  rintro e w1 ⟨⟨E, rfl, hgood, hok⟩, hb1⟩
  have HX := Lib.hid (HX0.out.below hb1)
  have HR := Lib.hid (HR0.out.below hb1)
  have HB := Lib.hid (thru HB0.out hb1 HB0.out.size)
  clear hb1 HX0 HR0 HB0 HWHY
  by_cases hE : E = 0
  · subst hE
    have hg := hgood rfl
    clear hok hgood
    obtain ⟨P, hpw, hpl⟩ := hg
    have HPW := Lib.hid hpw
    have HPL := Lib.hid hpl
    clear hpw hpl
    have HUS := Lib.hid (used_any S wet sec w1 (HM.out.below HB.out) HZ.out HSR.out (by omega) r2)
    have b0 := HX.out.c0
    have b1 := HX.out.c1
    have b2 := HX.out.c2
    have b3 := HX.out.c3
    have b4 := HX.out.c4
    have b5 := HX.out.c5
    have b6 := HX.out.c6
    have b7 := HX.out.c7
    have b8 := HX.out.c8
    have b9 := HX.out.c9
    have b10 := HX.out.c10
    have b11 := HX.out.c11
    have b12 := HX.out.c12
    go_wp2_with fail
    refine HUS.out.mono ?_
    rintro e w2 ⟨⟨mb, mc, rfl, hmap⟩, hb2⟩
    have HMP := Lib.hid hmap
    replace HX := Lib.hid (HX.out.below hb2)
    replace HR := Lib.hid (HR.out.below hb2)
    replace HB := Lib.hid (thru HB.out hb2 HB.out.size)
    clear b0 b1 b2 b3 b4 b5 b6 b7 b8 b9 b10 b11 b12
    clear hmap hb2 HUS
    have HSP := Lib.hid (spare_any S.np S.cp S.fp S.po w2 (HM.out.below HB.out).po HZ.out.np HPO.out)
    have b0 := HX.out.c0
    have hsv : 0 ≤ sumN (vS S wet sec) S.ng ∧ sumN (vS S wet sec) S.ng ≤ 4800000 := by
      have h := sumN_bd (f := vS S wet sec) (n := S.ng) (lo := 0) (hi := 600000) fun i _ => vS_bd HSR.out (by omega) r2 i
      have := HZ.out.ng
      omega
    obtain ⟨V, hV⟩ : ∃ V, V = sumN (vS S wet sec) S.ng := ⟨_, rfl⟩
    obtain ⟨SP, hSP⟩ : ∃ SP, SP = sumN (spF S.fp) S.np := ⟨_, rfl⟩
    rw [← hV] at hsv ⊢
    rw [← hSP] at HSP
    obtain ⟨hv0, hv1⟩ := hsv
    have HV := Lib.hid hV
    have HSPE := Lib.hid hSP
    clear hV hSP
    go_wp2_with fail
    refine HSP.out.mono ?_
    rintro e w3 ⟨rfl, hb3⟩
    replace HX := Lib.hid (HX.out.below hb3)
    replace HR := Lib.hid (HR.out.below hb3)
    replace HB := Lib.hid (thru HB.out hb3 HB.out.size)
    replace HMP := Lib.hid (HMP.out.below hb3)
    clear hb3 b0 HSP
    by_cases hsp : SP < V
    · have HBAD : Hid (¬ StepOK S wet sec) := Lib.hid fun h => by have := h.sp; have e1 := HV.out; have e2 := HSPE.out; simp only [sumV] at this; omega
      have HTH := Lib.hid HR.out.there
      have HZB := Lib.hid (HR.out.stored (.slice none 0 0) (.slice none 0 0) (.slice none 0 0) (.slice none 0 0) (.slice none 0 0) (.slice none 0 0) 0 0 0 0 0 0 0)
      clear HR
      go_upto_region 8 with fail
      go_step
      go_step
      go_step
      apply_assumption
      refine wpList_store_mid rfl 41 (.tmp 6) (.tmp 61) rfl (w.heap.size + 1) 0 #[.slice none 0 0, .slice none 0 0, .slice none 0 0, .slice none 0 0, .slice none 0 0, .slice none 0 0, .int .i64 0, .int .i64 0, .int .i64 0, .int .i64 0, .int .i64 0, .int .i64 0, .int .i64 0] rfl rfl HTH.out sys_size (by simp [Value.oneCell']) ?_
      change wpList _ _ _ _ _ (w3.setCells (w.heap.size + 1) 0 [.slice none 0 0, .slice none 0 0, .slice none 0 0, .slice none 0 0, .slice none 0 0, .slice none 0 0, .int .i64 0, .int .i64 0, .int .i64 0, .int .i64 0, .int .i64 0, .int .i64 0, .int .i64 0])
      have HBZ := Lib.hid (HB.out.trans ((setCells_only (w.heap.size + 1) [.slice none 0 0, .slice none 0 0, .slice none 0 0, .slice none 0 0, .slice none 0 0, .slice none 0 0, .int .i64 0, .int .i64 0, .int .i64 0, .int .i64 0, .int .i64 0, .int .i64 0, .int .i64 0] 0 w3).below (Nat.le_succ _)))
      generalize w3.setCells (w.heap.size + 1) 0 [.slice none 0 0, .slice none 0 0, .slice none 0 0, .slice none 0 0, .slice none 0 0, .slice none 0 0, .int .i64 0, .int .i64 0, .int .i64 0, .int .i64 0, .int .i64 0, .int .i64 0, .int .i64 0] = wz at HZB HBZ ⊢
      go_wp
      refine bodyPost_ret (step_results _ _ (w.heap.size + 1) rfl rfl HZB.out) rfl ?_
      refine StepPost.bad 8 (by decide) HBAD.out ?_
      exact HBZ.out
    · have hspf : decide (SP < V) = false := decide_eq_false hsp
      have HVS : Hid (V ≤ SP) := Lib.hid (by omega)
      have HPC := Lib.hid (power_any S wet w3 (HM.out.below HB.out) HZ.out HSR.out)
      have b0 := HX.out.c0
      have b1 := HX.out.c1
      have b2 := HX.out.c2
      have b3 := HX.out.c3
      have b4 := HX.out.c4
      have b5 := HX.out.c5
      have b6 := HX.out.c6
      have b7 := HX.out.c7
      have b8 := HX.out.c8
      have b9 := HX.out.c9
      have b10 := HX.out.c10
      have b11 := HX.out.c11
      have b12 := HX.out.c12
      go_wp2_with fail
      refine HPC.out.mono ?_
      rintro e w4 ⟨⟨P2, E2, rfl, hpr2, hq0, hq1⟩, hb4⟩
      have hE20 : E2 = 0 := by
        rcases hpr2.err with h | ⟨_, hno⟩
        · exact h
        · exact absurd HPW.out (hno P)
      subst hE20
      obtain rfl : P = P2 := HPW.out.uniq hpr2
      replace HX := Lib.hid (HX.out.below hb4)
      replace HR := Lib.hid (HR.out.below hb4)
      replace HB := Lib.hid (thru HB.out hb4 HB.out.size)
      replace HMP := Lib.hid (HMP.out.below hb4)
      clear b0 b1 b2 b3 b4 b5 b6 b7 b8 b9 b10 b11 b12
      have HRZ4 := Lib.hid HR.out.z
      clear hb4 hpr2 HPC hsp hspf
      have HCC := Lib.hid (copy_any S w4 (HM.out.below HB.out) HZ.out)
      have b0 := HX.out.c0
      have b1 := HX.out.c1
      have b2 := HX.out.c2
      have b3 := HX.out.c3
      have b4 := HX.out.c4
      have b5 := HX.out.c5
      have b6 := HX.out.c6
      have b7 := HX.out.c7
      have b8 := HX.out.c8
      have b9 := HX.out.c9
      have b10 := HX.out.c10
      have b11 := HX.out.c11
      have b12 := HX.out.c12
      go_wp2_with fail
      refine HCC.out.mono ?_
      rintro e w5 ⟨A, c, A1, c1, A2, c2, A3, c3, A4, c4, B, d, rfl, hpo, hA0, hpa, hb5⟩
      have ha5 := Joins.below_alloc1 w5 (.cells #[.slice A S.np c, .slice A1 S.nu c1, .slice A2 S.ni c2, .slice A3 S.nk c3, .slice A4 S.ng c4, .slice B S.na d, .int .i64 S.p, .int .i64 S.l, .int .i64 S.t, .int .i64 S.wa, .int .i64 S.lo, .int .i64 S.en, .int .i64 S.inn] 41)
      replace HR := Lib.hid ((HR.out.below hb5).below ha5)
      replace HB := Lib.hid (thru (thru HB.out hb5 HB.out.size) ha5 (thru HB.out hb5 HB.out.size).size)
      replace HMP := Lib.hid ((HMP.out.below hb5).below ha5)
      have HOX := Lib.hid (BoxAt.mk0 w5 (.slice A S.np c) (.slice A1 S.nu c1) (.slice A2 S.ni c2) (.slice A3 S.nk c3) (.slice A4 S.ng c4) (.slice B S.na d) S.p S.l S.t S.wa S.lo S.en S.inn)
      have HOW := Lib.hid (owns_below hpa ha5)
      have HW45 := Lib.hid hb5.size
      have HSW := Lib.hid (show w.heap.size + 1 < w4.heap.size by have h := HR.out.z; have h2 := HX.out.z; have h3 := HRZ4.out; omega)
      have HOWN0 : Hid ((Value.slice B S.na d).ownBlock ≠ some w5.heap.size) := Lib.hid (fun e => by have h := (hpa.lt _ e).2; omega)
      have HGB : Hid (∀ g, B = some ⟨g, 0, none⟩ → w4.heap.size ≤ g ∧ g < w5.heap.size) := Lib.hid (fun g e => by subst e; exact hpa.lt g rfl)
      have HTK := Lib.hid (take_any S.np c V S.fp A (w5.alloc (.cells #[.slice A S.np c, .slice A1 S.nu c1, .slice A2 S.ni c2, .slice A3 S.nk c3, .slice A4 S.ng c4, .slice B S.na d, .int .i64 S.p, .int .i64 S.l, .int .i64 S.t, .int .i64 S.wa, .int .i64 S.lo, .int .i64 S.en, .int .i64 S.inn] 41)) (hpo.below ha5) hA0 HZ.out.np HPO.out hv0 (by omega) (by have h1 := HVS.out; have h2 := HSPE.out; omega))
      clear b0 b1 b2 b3 b4 b5 b6 b7 b8 b9 b10 b11 b12
      clear hb5 ha5 hpo hA0 hpa HX HCC HRZ4
      go_wp2_with fail
      refine HTK.out.mono ?_
      rintro e w6 ⟨⟨A6, c6, Q, rfl, hp6, hA6, hQ, hQ1⟩, hb6⟩
      have HQ := Lib.hid hQ
      have HQ1 := Lib.hid hQ1
      have hob : w5.heap.size < w6.heap.size := by have h := hb6.size; simp at h; omega
      have HOB6 := Lib.hid hob
      replace HR := Lib.hid (HR.out.below hb6)
      replace HB := Lib.hid (thru HB.out hb6 HB.out.size)
      replace HMP := Lib.hid (HMP.out.below hb6)
      replace HOX := Lib.hid (HOX.out.below hb6)
      replace HOW := Lib.hid (owns_below HOW.out hb6)
      have HOWN : Hid ((Value.slice B S.na d).ownBlock ≠ some w5.heap.size) := Lib.hid HOWN0.out
      have x0 := HOX.out.c0
      have xf := HOX.out.f 0
      have hri6 : RI2 (w5.heap.size + 1) w6 A6 5 S.np (tkF S.fp Q S.np) := by simpa using hp6
      replace HR := Lib.hid (HR.out.setFar (q := ⟨w5.heap.size, 0, none⟩) (by show w5.heap.size ≠ w.heap.size + 1; have h1 := HSW.out; have h2 := HW45.out; omega) (.slice A6 S.np c6))
      replace HB := Lib.hid (HB.out.setCell (p := ⟨w5.heap.size, 0, none⟩) (by show w.heap.size ≤ w5.heap.size; have h1 := HSW.out; have h2 := HW45.out; omega) (.slice A6 S.np c6))
      replace HMP := Lib.hid (HMP.out.setFar (q := ⟨w5.heap.size, 0, none⟩) (.slice A6 S.np c6))
      replace HOW := Lib.hid (owns_set3 HOW.out (p := ⟨w5.heap.size, 0, none⟩) (HOWN.out) (.slice A6 S.np c6))
      replace HOX := Lib.hid (HOX.out.set0 (.slice A6 S.np c6))
      have hri6b := hri6.set (p := ⟨w5.heap.size, 0, none⟩) (by show w5.heap.size < w5.heap.size + 1; omega) (.slice A6 S.np c6)
      have HFI := Lib.hid (fill_any S.np c6 (tkF S.fp Q S.np) sec A6 _ hri6b.ri hA6 HZ.out.np (fillOK_of HPO.out hQ) (by omega) (by omega))
      clear hp6 hri6 hri6b hA6 hQ hQ1 hb6 HTK
      go_wp2_with fail
      refine HFI.out.mono ?_
      rintro e w7 ⟨⟨A7, c7, rfl, hp7, -⟩, hb7⟩
      have hfb := sumN_bd (f := fillN (tkF S.fp Q S.np) sec) (n := S.np) (lo := -1000000000) (hi := 240000000) fun i hi => (fillN_bd (fillOK_of HPO.out HQ.out) hi (by omega) (by omega)).2
      have hnp := HZ.out.np
      have hnai : (S.na : Int) ≤ 8 := by have h := HZ.out.na; omega
      obtain ⟨I, hI⟩ : ∃ I, I = sumN (fillN (tkF S.fp Q S.np) sec) S.np := ⟨_, rfl⟩
      rw [← hI] at hfb ⊢
      have hI0 : -8000000000 ≤ I := by omega
      have hI1 : I ≤ 8000000000 := by omega
      have HI := Lib.hid hI
      replace HR := Lib.hid (HR.out.below hb7)
      replace HB := Lib.hid (thru HB.out hb7 HB.out.size)
      replace HMP := Lib.hid (HMP.out.below hb7)
      replace HOX := Lib.hid (HOX.out.below hb7)
      replace HOW := Lib.hid (owns_below HOW.out hb7)
      have hri7 : RI2 w6.heap.size w7 A7 5 S.np (flP (tkF S.fp Q S.np) sec S.np) := by simpa using hp7
      have HP := Lib.hid (RIU.of_ri2 hri7)
      have hps0 : 0 ≤ P * sec := Int.mul_nonneg hq0 (by omega)
      have hps1 : P * sec ≤ 10000000000 * 3600 := Int.mul_le_mul hq1 r2 (by omega) (by omega)
      obtain ⟨wa0, wa1⟩ := HN.out.wa
      obtain ⟨lo0, lo1⟩ := HN.out.lo
      obtain ⟨en0, en1⟩ := HN.out.en
      obtain ⟨in0, in1⟩ := HN.out.inn
      have HZ7 : Hid (w6.heap.size ≤ w7.heap.size) := Lib.hid (by have h := hb7.size; simp at h; exact h)
      have x5 := HOX.out.c5
      have x9 := HOX.out.c9
      have x11 := HOX.out.c11
      have x12 := HOX.out.c12
      have x0' := HOX.out.c0
      have xf0 := HOX.out.f 0; have xf9 := HOX.out.f 9; have xf11 := HOX.out.f 11; have xf12 := HOX.out.f 12
      replace HR := Lib.hid (HR.out.setFar (q := ⟨w5.heap.size, 0, none⟩) (by show w5.heap.size ≠ w.heap.size + 1; have h1 := HSW.out; have h2 := HW45.out; omega) (.slice A7 S.np c7))
      replace HB := Lib.hid (HB.out.setCell (p := ⟨w5.heap.size, 0, none⟩) (by show w.heap.size ≤ w5.heap.size; have h1 := HSW.out; have h2 := HW45.out; omega) (.slice A7 S.np c7))
      replace HMP := Lib.hid (HMP.out.setFar (q := ⟨w5.heap.size, 0, none⟩) (.slice A7 S.np c7))
      replace HOW := Lib.hid (owns_set3 HOW.out (p := ⟨w5.heap.size, 0, none⟩) (HOWN.out) (.slice A7 S.np c7))
      replace HOX := Lib.hid (HOX.out.set0 (.slice A7 S.np c7))
      replace HR := Lib.hid (HR.out.setFar (q := ⟨w5.heap.size, 12, none⟩) (by show w5.heap.size ≠ w.heap.size + 1; have h1 := HSW.out; have h2 := HW45.out; omega) (.int .i64 (S.inn + I)))
      replace HB := Lib.hid (HB.out.setCell (p := ⟨w5.heap.size, 12, none⟩) (by show w.heap.size ≤ w5.heap.size; have h1 := HSW.out; have h2 := HW45.out; omega) (.int .i64 (S.inn + I)))
      replace HMP := Lib.hid (HMP.out.setFar (q := ⟨w5.heap.size, 12, none⟩) (.int .i64 (S.inn + I)))
      replace HOW := Lib.hid (owns_set3 HOW.out (p := ⟨w5.heap.size, 12, none⟩) (HOWN.out) (.int .i64 (S.inn + I)))
      replace HOX := Lib.hid (HOX.out.set12 (S.inn + I))
      replace HR := Lib.hid (HR.out.setFar (q := ⟨w5.heap.size, 9, none⟩) (by show w5.heap.size ≠ w.heap.size + 1; have h1 := HSW.out; have h2 := HW45.out; omega) (.int .i64 (S.wa + V)))
      replace HB := Lib.hid (HB.out.setCell (p := ⟨w5.heap.size, 9, none⟩) (by show w.heap.size ≤ w5.heap.size; have h1 := HSW.out; have h2 := HW45.out; omega) (.int .i64 (S.wa + V)))
      replace HMP := Lib.hid (HMP.out.setFar (q := ⟨w5.heap.size, 9, none⟩) (.int .i64 (S.wa + V)))
      replace HOW := Lib.hid (owns_set3 HOW.out (p := ⟨w5.heap.size, 9, none⟩) (HOWN.out) (.int .i64 (S.wa + V)))
      replace HOX := Lib.hid (HOX.out.set9 (S.wa + V))
      replace HR := Lib.hid (HR.out.setFar (q := ⟨w5.heap.size, 11, none⟩) (by show w5.heap.size ≠ w.heap.size + 1; have h1 := HSW.out; have h2 := HW45.out; omega) (.int .i64 (S.en + P * sec)))
      replace HB := Lib.hid (HB.out.setCell (p := ⟨w5.heap.size, 11, none⟩) (by show w.heap.size ≤ w5.heap.size; have h1 := HSW.out; have h2 := HW45.out; omega) (.int .i64 (S.en + P * sec)))
      replace HMP := Lib.hid (HMP.out.setFar (q := ⟨w5.heap.size, 11, none⟩) (.int .i64 (S.en + P * sec)))
      replace HOW := Lib.hid (owns_set3 HOW.out (p := ⟨w5.heap.size, 11, none⟩) (HOWN.out) (.int .i64 (S.en + P * sec)))
      replace HOX := Lib.hid (HOX.out.set11 (S.en + P * sec))
      replace HP := Lib.hid (HP.out.set (p := ⟨w5.heap.size, 0, none⟩) HOB6.out (.slice A7 S.np c7))
      replace HP := Lib.hid (HP.out.set (p := ⟨w5.heap.size, 12, none⟩) HOB6.out (.int .i64 (S.inn + I)))
      replace HP := Lib.hid (HP.out.set (p := ⟨w5.heap.size, 9, none⟩) HOB6.out (.int .i64 (S.wa + V)))
      replace HP := Lib.hid (HP.out.set (p := ⟨w5.heap.size, 11, none⟩) HOB6.out (.int .i64 (S.en + P * sec)))
      have HOI : Hid (0 < S.na → ∃ g, B = some ⟨g, 0, none⟩ ∧ OwnI w4.heap.size ((((w7.setCell ⟨w5.heap.size, 0, none⟩ (.slice A7 S.np c7)).setCell ⟨w5.heap.size, 12, none⟩ (.int .i64 (S.inn + I))).setCell ⟨w5.heap.size, 9, none⟩ (.int .i64 (S.wa + V))).setCell ⟨w5.heap.size, 11, none⟩ (.int .i64 (S.en + P * sec))) g 5 S.na (faS S wet sec 0)) := Lib.hid fun hp => by
        obtain ⟨g, rfl⟩ := owns_some HOW.out hp
        exact ⟨g, rfl, (OwnI.of_owns HOW.out).congr fun i _ j _ => by simp [faS]⟩
      have HZL : Hid (w7.heap.size ≤ ((((w7.setCell ⟨w5.heap.size, 0, none⟩ (.slice A7 S.np c7)).setCell ⟨w5.heap.size, 12, none⟩ (.int .i64 (S.inn + I))).setCell ⟨w5.heap.size, 9, none⟩ (.int .i64 (S.wa + V))).setCell ⟨w5.heap.size, 11, none⟩ (.int .i64 (S.en + P * sec))).heap.size) := Lib.hid (by simp)
      clear hfb hI hb7 hp7 hri7 x0 xf HFI HOW hob HOWN0
      go_wp2_with fail
      clear x0' xf0 xf9 xf11 xf12 x5 x9 x11 x12
      generalize hwl : ((((w7.setCell ⟨w5.heap.size, 0, none⟩ (.slice A7 S.np c7)).setCell ⟨w5.heap.size, 12, none⟩ (.int .i64 (S.inn + I))).setCell ⟨w5.heap.size, 9, none⟩ (.int .i64 (S.wa + V))).setCell ⟨w5.heap.size, 11, none⟩ (.int .i64 (S.en + P * sec))) = wl at *
      clear hwl
      go_loopw [119] (fun i wr => ∃ k : Nat, k ≤ S.na ∧ i = .int .i64 k ∧ Hid (BoxAt wr w5.heap.size (.slice A7 S.np c7) (.slice A1 S.nu c1) (.slice A2 S.ni c2) (.slice A3 S.nk c3) (.slice A4 S.ng c4) (.slice B S.na d) S.p S.l S.t (S.wa + V) (losS S wet sec k) (S.en + P * sec) (S.inn + I)) ∧ Hid (BoxAt wr (w.heap.size + 1) (.slice none 0 0) (.slice none 0 0) (.slice none 0 0) (.slice none 0 0) (.slice none 0 0) (.slice none 0 0) 0 0 0 0 0 0 0) ∧ Hid (Below w.heap.size w wr) ∧ Hid (MapI wr mb mc (fun x => runS S wet sec x S.ng)) ∧ Hid (RIU w6.heap.size w7.heap.size wr A7 5 S.np (flP (tkF S.fp Q S.np) sec S.np)) ∧ Hid (0 < S.na → ∃ g, B = some ⟨g, 0, none⟩ ∧ OwnI w4.heap.size wr g 5 S.na (faS S wet sec k)) ∧ Hid (∀ i, i < k → (mkS S wet sec i).2.2.2 = 0) ∧ Hid (w7.heap.size ≤ wr.heap.size)) (fun i _ => S.na - (intOf i).toNat)
      case atStart => exact ⟨0, Nat.zero_le _, rfl, Lib.hid (by have h := HOX.out; simpa [losS, sumN] using h), HR, HB, HMP, HP, HOI, Lib.hid (fun i hi => absurd hi (by omega)), HZL⟩
      case round =>
        clear HOX HR HB HMP HP HOI HZL
        obtain ⟨k, hk, rfl, HOX, HR, HB, HMP, HP, HOI, HMK, HZL⟩ := hrel
        by_cases hlt : k < S.na
        · have hlti : (k : Int) < (S.na : Int) := by omega
          obtain ⟨g, rfl, hog⟩ := HOI.out (by omega)
          obtain ⟨hg4, hg5⟩ := HGB.out g rfl
          have gz := hog.z
          have g0 := hog.c k hlt 0 (by omega)
          have g1 := hog.c k hlt 1 (by omega)
          have g2 := hog.c k hlt 2 (by omega)
          have g3 := hog.c k hlt 3 (by omega)
          have g4 := hog.c k hlt 4 (by omega)
          have e0 : ∀ j, faS S wet sec k k j = S.fa k j := fun j => by simp [faS]
          rw [e0] at g0 g1 g2 g3 g4
          rw [Nat.add_zero] at g0
          have gf2 := hog.f (k * 5 + 2)
          have gf3 := hog.f (k * 5 + 3)
          have gf4 := hog.f (k * 5 + 4)
          have HOG := Lib.hid hog
          obtain ⟨k0, k0', k1, k1'⟩ := HPA.out k hlt
          have hrb := runS_bd HSR.out (wet := wet) (sec := sec) (by omega) r2 (S.fa k 0) S.ng
          have hng := HZ.out.ng
          obtain ⟨R, hR⟩ : ∃ R, R = runS S wet sec (S.fa k 0) S.ng := ⟨_, rfl⟩
          obtain ⟨a0, ha0⟩ : ∃ x, x = S.fa k 0 := ⟨_, rfl⟩
          obtain ⟨a1, ha1⟩ : ∃ x, x = S.fa k 1 := ⟨_, rfl⟩
          obtain ⟨a2, ha2⟩ : ∃ x, x = S.fa k 2 := ⟨_, rfl⟩
          obtain ⟨a3, ha3⟩ : ∃ x, x = S.fa k 3 := ⟨_, rfl⟩
          obtain ⟨a4, ha4⟩ : ∃ x, x = S.fa k 4 := ⟨_, rfl⟩
          have hmm : mmS S wet sec k = if R / a1 < 1000 then R / a1 else 1000 := by rw [hR, ha1]; rfl
          have hmk : mkS S wet sec k = Snow.make a2 a3 a4 (if R / a1 < 1000 then R / a1 else 1000) := by rw [ha2, ha3, ha4, ← hmm]; rfl
          have hlo : losS S wet sec (k + 1) = losS S wet sec k + (R - (if R / a1 < 1000 then R / a1 else 1000) * a1) := by
            rw [← hmm, hR, ha1]
            exact losS_succ S wet sec k
          rw [← hR] at hrb
          rw [← ha0] at g0 k0 k0' hR
          rw [← ha1] at g1 k1 k1'
          rw [← ha2] at g2
          rw [← ha3] at g3
          rw [← ha4] at g4
          have hR0 : 0 ≤ R := hrb.1
          have hR1 : R ≤ 4800000 := by omega
          have hm := mm_bd hR0 k1
          obtain ⟨m0, m1, m2, m3⟩ := hm
          have hlb := losS_bd HSR.out (wet := wet) (sec := sec) (by omega) r2 HPA.out (by omega : k ≤ S.na) HZ.out
          obtain ⟨LO, hLO⟩ : ∃ LO, LO = losS S wet sec k := ⟨_, rfl⟩
          rw [← hLO] at hlb hlo HOX
          have hL0 : 0 ≤ LO := by omega
          have hL1 : LO ≤ 1125899945242624 := by omega
          have hwf : (Lit.int .i64 a0).wf = true := WalkArith.wf_i64 (by omega)
          have HRE := Lib.hid hR
          have HA := Lib.hid (And.intro ha0 (And.intro ha1 (And.intro ha2 (And.intro ha3 ha4))))
          have HLT := Lib.hid hlt
          obtain ⟨Dm, hown, hism, hat0⟩ := HMP.out
          have HOM := Lib.hid hown
          have HATR : Hid (Dm.atKey (.int .i64 a0) (.lit (.int .i64 0)) = .lit (.int .i64 R)) := Lib.hid (by have h := hat0 a0; rw [hR]; exact h)
          have hba := Joins.below_alloc1 wr (.cells #[.int .i64 a0, .int .i64 a1, .int .i64 a2, .int .i64 a3, .int .i64 a4] 57)
          have HBA := Lib.hid hba
          have HC0 := Lib.hid (show (wr.alloc (.cells #[.int .i64 a0, .int .i64 a1, .int .i64 a2, .int .i64 a3, .int .i64 a4] 57)).cell? ⟨wr.heap.size, 0, none⟩ = some (.int .i64 a0) by simp [go_sem])
          have HC1 := Lib.hid (show (wr.alloc (.cells #[.int .i64 a0, .int .i64 a1, .int .i64 a2, .int .i64 a3, .int .i64 a4] 57)).cell? ⟨wr.heap.size, 1, none⟩ = some (.int .i64 a1) by simp [go_sem])
          have hwz := HOX.out.z
          clear hR ha0 ha1 ha2 ha3 ha4 hlt hog hrb hlb hLO hown hism hat0 hba e0 hk
          by_cases hq : R / a1 < 1000
          · rw [if_pos hq] at hmm hmk hlo m0 m1 m2 m3
            have HMM := Lib.hid hmm
            have HMKE := Lib.hid hmk
            have HLOE := Lib.hid hlo
            obtain ⟨⟨x2, x3, x4, E⟩, hx⟩ : ∃ z, z = Snow.make a2 a3 a4 (R / a1) := ⟨_, rfl⟩
            have HXE := Lib.hid hx
            have HCM : Hid (∀ W, Calls Try.prog 40 #[pk a2 a3 a4, .int .i64 (R / a1)] W fun e w' => e = .returned (.tuple #[pk x2 x3 x4, .int .i64 E]) ∧ Below W.heap.size W w') := Lib.hid fun W => by
              have h := sn_Make_any a2 a3 a4 (R / a1) W
              rw [← hx] at h
              exact h
            clear hmm hmk hlo hx
            go_wp2_with (at_lookup; refine wpList_lookup_own_int _ rfl _ _ 104 rfl 3 3 .i64 mapLaw Try.underlying104 Try.underlying3 (intZero _) mb mc Dm rfl (HOM.out.alloc _) _ _ rfl (keyOf_int_mk Try.underlying3 hwf) ?_; intro cc hat hwc; obtain rfl : R = cc := (lit_inj (hat.symm.trans HATR.out)).symm; clear hat hwc)
            refine (HCM.out _).mono ?_
            rintro e w8 ⟨rfl, hb8⟩
            have hb := thru HBA.out hb8 HBA.out.size
            have HOX8 := Lib.hid (HOX.out.below hb)
            have HR8 := Lib.hid (HR.out.below hb)
            have HB8 := Lib.hid (thru HB.out hb HB.out.size)
            have HMP8 := Lib.hid (HMP.out.below hb)
            have HP8 := Lib.hid (HP.out.keep hb HZL.out)
            have HOG8 := Lib.hid (HOG.out.below hb)
            have HZL8 : Hid (w7.heap.size ≤ w8.heap.size) := Lib.hid (Nat.le_trans HZL.out hb.size)
            have p0 := (hb8.cell (p := ⟨wr.heap.size, 0, none⟩) (by simp)).trans HC0.out
            have p1 := (hb8.cell (p := ⟨wr.heap.size, 1, none⟩) (by simp)).trans HC1.out
            have pz : wr.heap.size < w8.heap.size := by have h := hb8.size; simp at h; omega
            have HOM8 := Lib.hid (ownsMap_below HOM.out hb)
            clear hb hb8 g0 g1 g2 g3 g4 gf2 gf3 gf4 gz hwz HCM
            by_cases hE : E = 0
            · subst hE
              have x5 := HOX8.out.c5
              have x10 := HOX8.out.c10
              have xf10 := HOX8.out.f 10
              have xz := HOX8.out.z
              have gz := HOG8.out.z
              have g2 := HOG8.out.c k HLT.out 2 (by omega)
              have gf2 := HOG8.out.f (k * 5 + 2)
              have g3 := HOG8.out.c k HLT.out 3 (by omega)
              have gf3 := HOG8.out.f (k * 5 + 3)
              have g4 := HOG8.out.c k HLT.out 4 (by omega)
              have gf4 := HOG8.out.f (k * 5 + 4)
              have hgo : g ≠ w5.heap.size := by omega
              have hgo2 : w5.heap.size ≠ g := by omega
              have hpo : wr.heap.size ≠ w5.heap.size := by have h := HZL.out; have h2 := HZ7.out; have h3 := HOB6.out; omega
              have hpg : wr.heap.size ≠ g := by have h := HZL.out; have h2 := HZ7.out; have h3 := HOB6.out; omega
              have hgp : g ≠ wr.heap.size := by omega
              have hop : w5.heap.size ≠ wr.heap.size := by omega
              have HOX9 : Hid (BoxAt (((((w8.setCell ⟨g, k * 5 + 2, none⟩ (.int .i64 x2)).setCell ⟨g, k * 5 + 2 + 1, none⟩ (.int .i64 x3)).setCell ⟨g, k * 5 + 2 + 2, none⟩ (.int .i64 x4)).setCell ⟨w5.heap.size, 10, none⟩ (.int .i64 (LO + (R - (R / a1) * a1)))).alloc (.cells #[.int .i64 x2, .int .i64 x3, .int .i64 x4] 55)) w5.heap.size (.slice A7 S.np c7) (.slice A1 S.nu c1) (.slice A2 S.ni c2) (.slice A3 S.nk c3) (.slice A4 S.ng c4) (.slice (some ⟨g, 0, none⟩) S.na d) S.p S.l S.t (S.wa + V) (LO + (R - (R / a1) * a1)) (S.en + P * sec) (S.inn + I)) := Lib.hid (((((HOX8.out.setFar (q := ⟨g, k * 5 + 2, none⟩) hgo (.int .i64 x2)).setFar (q := ⟨g, k * 5 + 2 + 1, none⟩) hgo (.int .i64 x3)).setFar (q := ⟨g, k * 5 + 2 + 2, none⟩) hgo (.int .i64 x4)).set10 (LO + (R - (R / a1) * a1))).below (Joins.below_alloc1 _ _))
              have HR9 : Hid (BoxAt (((((w8.setCell ⟨g, k * 5 + 2, none⟩ (.int .i64 x2)).setCell ⟨g, k * 5 + 2 + 1, none⟩ (.int .i64 x3)).setCell ⟨g, k * 5 + 2 + 2, none⟩ (.int .i64 x4)).setCell ⟨w5.heap.size, 10, none⟩ (.int .i64 (LO + (R - (R / a1) * a1)))).alloc (.cells #[.int .i64 x2, .int .i64 x3, .int .i64 x4] 55)) (w.heap.size + 1) (.slice none 0 0) (.slice none 0 0) (.slice none 0 0) (.slice none 0 0) (.slice none 0 0) (.slice none 0 0) 0 0 0 0 0 0 0) := Lib.hid (((((HR8.out.setFar (q := ⟨g, k * 5 + 2, none⟩) (by show g ≠ w.heap.size + 1; have h := HSW.out; omega) (.int .i64 x2)).setFar (q := ⟨g, k * 5 + 2 + 1, none⟩) (by show g ≠ w.heap.size + 1; have h := HSW.out; omega) (.int .i64 x3)).setFar (q := ⟨g, k * 5 + 2 + 2, none⟩) (by show g ≠ w.heap.size + 1; have h := HSW.out; omega) (.int .i64 x4)).setFar (q := ⟨w5.heap.size, 10, none⟩) (by show w5.heap.size ≠ w.heap.size + 1; have h := HSW.out; have h2 := HW45.out; omega) (.int .i64 (LO + (R - (R / a1) * a1)))).below (Joins.below_alloc1 _ _))
              have HB9 : Hid (Below w.heap.size w (((((w8.setCell ⟨g, k * 5 + 2, none⟩ (.int .i64 x2)).setCell ⟨g, k * 5 + 2 + 1, none⟩ (.int .i64 x3)).setCell ⟨g, k * 5 + 2 + 2, none⟩ (.int .i64 x4)).setCell ⟨w5.heap.size, 10, none⟩ (.int .i64 (LO + (R - (R / a1) * a1)))).alloc (.cells #[.int .i64 x2, .int .i64 x3, .int .i64 x4] 55))) := Lib.hid (((((HB8.out.setCell (p := ⟨g, k * 5 + 2, none⟩) (by show w.heap.size ≤ g; have h := HSW.out; omega) (.int .i64 x2)).setCell (p := ⟨g, k * 5 + 2 + 1, none⟩) (by show w.heap.size ≤ g; have h := HSW.out; omega) (.int .i64 x3)).setCell (p := ⟨g, k * 5 + 2 + 2, none⟩) (by show w.heap.size ≤ g; have h := HSW.out; omega) (.int .i64 x4)).setCell (p := ⟨w5.heap.size, 10, none⟩) (by show w.heap.size ≤ w5.heap.size; have h := HSW.out; have h2 := HW45.out; omega) (.int .i64 (LO + (R - (R / a1) * a1)))).alloc (by simp; exact HB8.out.size) _)
              have HMP9 : Hid (MapI (((((w8.setCell ⟨g, k * 5 + 2, none⟩ (.int .i64 x2)).setCell ⟨g, k * 5 + 2 + 1, none⟩ (.int .i64 x3)).setCell ⟨g, k * 5 + 2 + 2, none⟩ (.int .i64 x4)).setCell ⟨w5.heap.size, 10, none⟩ (.int .i64 (LO + (R - (R / a1) * a1)))).alloc (.cells #[.int .i64 x2, .int .i64 x3, .int .i64 x4] 55)) mb mc (fun x => runS S wet sec x S.ng)) := Lib.hid (((((HMP8.out.setFar (q := ⟨g, k * 5 + 2, none⟩) (.int .i64 x2)).setFar (q := ⟨g, k * 5 + 2 + 1, none⟩) (.int .i64 x3)).setFar (q := ⟨g, k * 5 + 2 + 2, none⟩) (.int .i64 x4)).setFar (q := ⟨w5.heap.size, 10, none⟩) (.int .i64 (LO + (R - (R / a1) * a1)))).below (Joins.below_alloc1 _ _))
              have HP9 : Hid (RIU w6.heap.size w7.heap.size (((((w8.setCell ⟨g, k * 5 + 2, none⟩ (.int .i64 x2)).setCell ⟨g, k * 5 + 2 + 1, none⟩ (.int .i64 x3)).setCell ⟨g, k * 5 + 2 + 2, none⟩ (.int .i64 x4)).setCell ⟨w5.heap.size, 10, none⟩ (.int .i64 (LO + (R - (R / a1) * a1)))).alloc (.cells #[.int .i64 x2, .int .i64 x3, .int .i64 x4] 55)) A7 5 S.np (flP (tkF S.fp Q S.np) sec S.np)) := Lib.hid (((((HP8.out.set (p := ⟨g, k * 5 + 2, none⟩) (by show g < w6.heap.size; have h := HOB6.out; omega) (.int .i64 x2)).set (p := ⟨g, k * 5 + 2 + 1, none⟩) (by show g < w6.heap.size; have h := HOB6.out; omega) (.int .i64 x3)).set (p := ⟨g, k * 5 + 2 + 2, none⟩) (by show g < w6.heap.size; have h := HOB6.out; omega) (.int .i64 x4)).set (p := ⟨w5.heap.size, 10, none⟩) HOB6.out (.int .i64 (LO + (R - (R / a1) * a1)))).keep (Joins.below_alloc1 _ _) (by simp; exact HZL8.out))
              have HOG9 : Hid (OwnI w4.heap.size (((((w8.setCell ⟨g, k * 5 + 2, none⟩ (.int .i64 x2)).setCell ⟨g, k * 5 + 2 + 1, none⟩ (.int .i64 x3)).setCell ⟨g, k * 5 + 2 + 2, none⟩ (.int .i64 x4)).setCell ⟨w5.heap.size, 10, none⟩ (.int .i64 (LO + (R - (R / a1) * a1)))).alloc (.cells #[.int .i64 x2, .int .i64 x3, .int .i64 x4] 55)) g 5 S.na (faS S wet sec (k + 1))) := Lib.hid (((((((HOG8.out.set (i := k) (j := 2) (by omega) x2).set (i := k) (j := 3) (by omega) x3).set (i := k) (j := 4) (by omega) x4).far (p := ⟨w5.heap.size, 10, none⟩) hgo2 (.int .i64 (LO + (R - (R / a1) * a1)))).below (Joins.below_alloc1 _ _)).congr fun i hi j hj => by
                unfold up2 faS
                by_cases e : i = k
                · subst e
                  rw [HMKE.out, ← HXE.out]
                  rcases (by omega : j = 0 ∨ j = 1 ∨ j = 2 ∨ j = 3 ∨ j = 4) with rfl | rfl | rfl | rfl | rfl
                  all_goals simp
                · by_cases e2 : i < k
                  · have e3 : i < k + 1 := by omega
                    simp [e, e2, e3]
                  · have e3 : ¬ i < k + 1 := by omega
                    simp [e, e2, e3]))
              have HMK9 : Hid (∀ i, i < k + 1 → (mkS S wet sec i).2.2.2 = 0) := Lib.hid fun i hi => by
                by_cases e : i = k
                · subst e; rw [HMKE.out, ← HXE.out]
                · exact HMK.out i (by omega)
              have HZL9 : Hid (w7.heap.size ≤ (((((w8.setCell ⟨g, k * 5 + 2, none⟩ (.int .i64 x2)).setCell ⟨g, k * 5 + 2 + 1, none⟩ (.int .i64 x3)).setCell ⟨g, k * 5 + 2 + 2, none⟩ (.int .i64 x4)).setCell ⟨w5.heap.size, 10, none⟩ (.int .i64 (LO + (R - (R / a1) * a1)))).alloc (.cells #[.int .i64 x2, .int .i64 x3, .int .i64 x4] 55)).heap.size) := Lib.hid (by simp; have h := HZL8.out; omega)
              clear HOX HR HB HMP HP HOI HMK HZL HR8 HB8 HMP8 HP8 HOG8 HZL8 HMKE HXE HMM HOX8 HOM HBA HC0 HC1 HOG
              go_wp2_with (at_lookup; refine wpList_lookup_own_int _ rfl _ _ 104 rfl 3 3 .i64 mapLaw Try.underlying104 Try.underlying3 (intZero _) mb mc Dm rfl ((ownsMap_set (ownsMap_set (ownsMap_set HOM8.out _) _) _).alloc _) _ _ rfl (keyOf_int_mk Try.underlying3 hwf) ?_; intro cc hat hwc; obtain rfl : R = cc := (lit_inj (hat.symm.trans HATR.out)).symm; clear hat hwc)
              go_roundw
              case rel => exact ⟨k + 1, HLT.out, by go_num, by rw [HLOE.out]; exact HOX9, HR9, HB9, HMP9, HP9, Lib.hid (fun _ => ⟨g, rfl, HOG9.out⟩), HMK9, HZL9⟩
              case measure => have := HLT.out; simp [intOf]; omega
            · have hE1 : (E == 0) = false := beq_eq_false_iff_ne.2 hE
              have hE2 : (E != 0) = true := by simp [hE]
              have HBAD : Hid (¬ StepOK S wet sec) := Lib.hid fun h => by
                have h1 := h.mks k HLT.out
                rw [HMKE.out, ← HXE.out] at h1
                exact hE h1
              clear hE p0 p1 HR
              have HR := HR8
              replace HR := Lib.hid (HR.out.below (Joins.below_alloc1 _ (.cells #[.int .i64 x2, .int .i64 x3, .int .i64 x4] 55)))
              have HB9 := Lib.hid (HB8.out.alloc HB8.out.size (.cells #[.int .i64 x2, .int .i64 x3, .int .i64 x4] 55))
              have HTH := Lib.hid HR.out.there
              have HZB := Lib.hid (HR.out.stored (.slice none 0 0) (.slice none 0 0) (.slice none 0 0) (.slice none 0 0) (.slice none 0 0) (.slice none 0 0) 0 0 0 0 0 0 0)
              clear HR
              go_upto_region 29 with fail
              go_step
              go_step
              go_step
              apply_assumption
              refine wpList_store_mid rfl 41 (.tmp 6) (.tmp 141) rfl (w.heap.size + 1) 0 #[.slice none 0 0, .slice none 0 0, .slice none 0 0, .slice none 0 0, .slice none 0 0, .slice none 0 0, .int .i64 0, .int .i64 0, .int .i64 0, .int .i64 0, .int .i64 0, .int .i64 0, .int .i64 0] rfl rfl HTH.out sys_size (by simp [Value.oneCell']) ?_
              change wpList _ _ _ _ _ ((w8.alloc (.cells #[.int .i64 x2, .int .i64 x3, .int .i64 x4] 55)).setCells (w.heap.size + 1) 0 [.slice none 0 0, .slice none 0 0, .slice none 0 0, .slice none 0 0, .slice none 0 0, .slice none 0 0, .int .i64 0, .int .i64 0, .int .i64 0, .int .i64 0, .int .i64 0, .int .i64 0, .int .i64 0])
              have HBZ := Lib.hid (HB9.out.trans ((setCells_only (w.heap.size + 1) [.slice none 0 0, .slice none 0 0, .slice none 0 0, .slice none 0 0, .slice none 0 0, .slice none 0 0, .int .i64 0, .int .i64 0, .int .i64 0, .int .i64 0, .int .i64 0, .int .i64 0, .int .i64 0] 0 (w8.alloc (.cells #[.int .i64 x2, .int .i64 x3, .int .i64 x4] 55))).below (Nat.le_succ _)))
              generalize (w8.alloc (.cells #[.int .i64 x2, .int .i64 x3, .int .i64 x4] 55)).setCells (w.heap.size + 1) 0 [.slice none 0 0, .slice none 0 0, .slice none 0 0, .slice none 0 0, .slice none 0 0, .slice none 0 0, .int .i64 0, .int .i64 0, .int .i64 0, .int .i64 0, .int .i64 0, .int .i64 0, .int .i64 0] = wz at HZB HBZ ⊢
              go_wp
              refine bodyPost_ret (step_results _ _ (w.heap.size + 1) rfl rfl HZB.out) rfl ?_
              refine StepPost.bad 12 (by decide) HBAD.out ?_
              exact HBZ.out
          · rw [if_neg hq] at hmm hmk hlo m0 m1 m2 m3
            have HMM := Lib.hid hmm
            have HMKE := Lib.hid hmk
            have HLOE := Lib.hid hlo
            obtain ⟨⟨x2, x3, x4, E⟩, hx⟩ : ∃ z, z = Snow.make a2 a3 a4 1000 := ⟨_, rfl⟩
            have HXE := Lib.hid hx
            have HCM : Hid (∀ W, Calls Try.prog 40 #[pk a2 a3 a4, .int .i64 1000] W fun e w' => e = .returned (.tuple #[pk x2 x3 x4, .int .i64 E]) ∧ Below W.heap.size W w') := Lib.hid fun W => by
              have h := sn_Make_any a2 a3 a4 1000 W
              rw [← hx] at h
              exact h
            clear hmm hmk hlo hx
            go_wp2_with (at_lookup; refine wpList_lookup_own_int _ rfl _ _ 104 rfl 3 3 .i64 mapLaw Try.underlying104 Try.underlying3 (intZero _) mb mc Dm rfl (HOM.out.alloc _) _ _ rfl (keyOf_int_mk Try.underlying3 hwf) ?_; intro cc hat hwc; obtain rfl : R = cc := (lit_inj (hat.symm.trans HATR.out)).symm; clear hat hwc)
            refine (HCM.out _).mono ?_
            rintro e w8 ⟨rfl, hb8⟩
            have hb := thru HBA.out hb8 HBA.out.size
            have HOX8 := Lib.hid (HOX.out.below hb)
            have HR8 := Lib.hid (HR.out.below hb)
            have HB8 := Lib.hid (thru HB.out hb HB.out.size)
            have HMP8 := Lib.hid (HMP.out.below hb)
            have HP8 := Lib.hid (HP.out.keep hb HZL.out)
            have HOG8 := Lib.hid (HOG.out.below hb)
            have HZL8 : Hid (w7.heap.size ≤ w8.heap.size) := Lib.hid (Nat.le_trans HZL.out hb.size)
            have p0 := (hb8.cell (p := ⟨wr.heap.size, 0, none⟩) (by simp)).trans HC0.out
            have p1 := (hb8.cell (p := ⟨wr.heap.size, 1, none⟩) (by simp)).trans HC1.out
            have pz : wr.heap.size < w8.heap.size := by have h := hb8.size; simp at h; omega
            have HOM8 := Lib.hid (ownsMap_below HOM.out hb)
            clear hb hb8 g0 g1 g2 g3 g4 gf2 gf3 gf4 gz hwz HCM
            by_cases hE : E = 0
            · subst hE
              have x5 := HOX8.out.c5
              have x10 := HOX8.out.c10
              have xf10 := HOX8.out.f 10
              have xz := HOX8.out.z
              have gz := HOG8.out.z
              have g2 := HOG8.out.c k HLT.out 2 (by omega)
              have gf2 := HOG8.out.f (k * 5 + 2)
              have g3 := HOG8.out.c k HLT.out 3 (by omega)
              have gf3 := HOG8.out.f (k * 5 + 3)
              have g4 := HOG8.out.c k HLT.out 4 (by omega)
              have gf4 := HOG8.out.f (k * 5 + 4)
              have hgo : g ≠ w5.heap.size := by omega
              have hgo2 : w5.heap.size ≠ g := by omega
              have hpo : wr.heap.size ≠ w5.heap.size := by have h := HZL.out; have h2 := HZ7.out; have h3 := HOB6.out; omega
              have hpg : wr.heap.size ≠ g := by have h := HZL.out; have h2 := HZ7.out; have h3 := HOB6.out; omega
              have hgp : g ≠ wr.heap.size := by omega
              have hop : w5.heap.size ≠ wr.heap.size := by omega
              have HOX9 : Hid (BoxAt (((((w8.setCell ⟨g, k * 5 + 2, none⟩ (.int .i64 x2)).setCell ⟨g, k * 5 + 2 + 1, none⟩ (.int .i64 x3)).setCell ⟨g, k * 5 + 2 + 2, none⟩ (.int .i64 x4)).setCell ⟨w5.heap.size, 10, none⟩ (.int .i64 (LO + (R - 1000 * a1)))).alloc (.cells #[.int .i64 x2, .int .i64 x3, .int .i64 x4] 55)) w5.heap.size (.slice A7 S.np c7) (.slice A1 S.nu c1) (.slice A2 S.ni c2) (.slice A3 S.nk c3) (.slice A4 S.ng c4) (.slice (some ⟨g, 0, none⟩) S.na d) S.p S.l S.t (S.wa + V) (LO + (R - 1000 * a1)) (S.en + P * sec) (S.inn + I)) := Lib.hid (((((HOX8.out.setFar (q := ⟨g, k * 5 + 2, none⟩) hgo (.int .i64 x2)).setFar (q := ⟨g, k * 5 + 2 + 1, none⟩) hgo (.int .i64 x3)).setFar (q := ⟨g, k * 5 + 2 + 2, none⟩) hgo (.int .i64 x4)).set10 (LO + (R - 1000 * a1))).below (Joins.below_alloc1 _ _))
              have HR9 : Hid (BoxAt (((((w8.setCell ⟨g, k * 5 + 2, none⟩ (.int .i64 x2)).setCell ⟨g, k * 5 + 2 + 1, none⟩ (.int .i64 x3)).setCell ⟨g, k * 5 + 2 + 2, none⟩ (.int .i64 x4)).setCell ⟨w5.heap.size, 10, none⟩ (.int .i64 (LO + (R - 1000 * a1)))).alloc (.cells #[.int .i64 x2, .int .i64 x3, .int .i64 x4] 55)) (w.heap.size + 1) (.slice none 0 0) (.slice none 0 0) (.slice none 0 0) (.slice none 0 0) (.slice none 0 0) (.slice none 0 0) 0 0 0 0 0 0 0) := Lib.hid (((((HR8.out.setFar (q := ⟨g, k * 5 + 2, none⟩) (by show g ≠ w.heap.size + 1; have h := HSW.out; omega) (.int .i64 x2)).setFar (q := ⟨g, k * 5 + 2 + 1, none⟩) (by show g ≠ w.heap.size + 1; have h := HSW.out; omega) (.int .i64 x3)).setFar (q := ⟨g, k * 5 + 2 + 2, none⟩) (by show g ≠ w.heap.size + 1; have h := HSW.out; omega) (.int .i64 x4)).setFar (q := ⟨w5.heap.size, 10, none⟩) (by show w5.heap.size ≠ w.heap.size + 1; have h := HSW.out; have h2 := HW45.out; omega) (.int .i64 (LO + (R - 1000 * a1)))).below (Joins.below_alloc1 _ _))
              have HB9 : Hid (Below w.heap.size w (((((w8.setCell ⟨g, k * 5 + 2, none⟩ (.int .i64 x2)).setCell ⟨g, k * 5 + 2 + 1, none⟩ (.int .i64 x3)).setCell ⟨g, k * 5 + 2 + 2, none⟩ (.int .i64 x4)).setCell ⟨w5.heap.size, 10, none⟩ (.int .i64 (LO + (R - 1000 * a1)))).alloc (.cells #[.int .i64 x2, .int .i64 x3, .int .i64 x4] 55))) := Lib.hid (((((HB8.out.setCell (p := ⟨g, k * 5 + 2, none⟩) (by show w.heap.size ≤ g; have h := HSW.out; omega) (.int .i64 x2)).setCell (p := ⟨g, k * 5 + 2 + 1, none⟩) (by show w.heap.size ≤ g; have h := HSW.out; omega) (.int .i64 x3)).setCell (p := ⟨g, k * 5 + 2 + 2, none⟩) (by show w.heap.size ≤ g; have h := HSW.out; omega) (.int .i64 x4)).setCell (p := ⟨w5.heap.size, 10, none⟩) (by show w.heap.size ≤ w5.heap.size; have h := HSW.out; have h2 := HW45.out; omega) (.int .i64 (LO + (R - 1000 * a1)))).alloc (by simp; exact HB8.out.size) _)
              have HMP9 : Hid (MapI (((((w8.setCell ⟨g, k * 5 + 2, none⟩ (.int .i64 x2)).setCell ⟨g, k * 5 + 2 + 1, none⟩ (.int .i64 x3)).setCell ⟨g, k * 5 + 2 + 2, none⟩ (.int .i64 x4)).setCell ⟨w5.heap.size, 10, none⟩ (.int .i64 (LO + (R - 1000 * a1)))).alloc (.cells #[.int .i64 x2, .int .i64 x3, .int .i64 x4] 55)) mb mc (fun x => runS S wet sec x S.ng)) := Lib.hid (((((HMP8.out.setFar (q := ⟨g, k * 5 + 2, none⟩) (.int .i64 x2)).setFar (q := ⟨g, k * 5 + 2 + 1, none⟩) (.int .i64 x3)).setFar (q := ⟨g, k * 5 + 2 + 2, none⟩) (.int .i64 x4)).setFar (q := ⟨w5.heap.size, 10, none⟩) (.int .i64 (LO + (R - 1000 * a1)))).below (Joins.below_alloc1 _ _))
              have HP9 : Hid (RIU w6.heap.size w7.heap.size (((((w8.setCell ⟨g, k * 5 + 2, none⟩ (.int .i64 x2)).setCell ⟨g, k * 5 + 2 + 1, none⟩ (.int .i64 x3)).setCell ⟨g, k * 5 + 2 + 2, none⟩ (.int .i64 x4)).setCell ⟨w5.heap.size, 10, none⟩ (.int .i64 (LO + (R - 1000 * a1)))).alloc (.cells #[.int .i64 x2, .int .i64 x3, .int .i64 x4] 55)) A7 5 S.np (flP (tkF S.fp Q S.np) sec S.np)) := Lib.hid (((((HP8.out.set (p := ⟨g, k * 5 + 2, none⟩) (by show g < w6.heap.size; have h := HOB6.out; omega) (.int .i64 x2)).set (p := ⟨g, k * 5 + 2 + 1, none⟩) (by show g < w6.heap.size; have h := HOB6.out; omega) (.int .i64 x3)).set (p := ⟨g, k * 5 + 2 + 2, none⟩) (by show g < w6.heap.size; have h := HOB6.out; omega) (.int .i64 x4)).set (p := ⟨w5.heap.size, 10, none⟩) HOB6.out (.int .i64 (LO + (R - 1000 * a1)))).keep (Joins.below_alloc1 _ _) (by simp; exact HZL8.out))
              have HOG9 : Hid (OwnI w4.heap.size (((((w8.setCell ⟨g, k * 5 + 2, none⟩ (.int .i64 x2)).setCell ⟨g, k * 5 + 2 + 1, none⟩ (.int .i64 x3)).setCell ⟨g, k * 5 + 2 + 2, none⟩ (.int .i64 x4)).setCell ⟨w5.heap.size, 10, none⟩ (.int .i64 (LO + (R - 1000 * a1)))).alloc (.cells #[.int .i64 x2, .int .i64 x3, .int .i64 x4] 55)) g 5 S.na (faS S wet sec (k + 1))) := Lib.hid (((((((HOG8.out.set (i := k) (j := 2) (by omega) x2).set (i := k) (j := 3) (by omega) x3).set (i := k) (j := 4) (by omega) x4).far (p := ⟨w5.heap.size, 10, none⟩) hgo2 (.int .i64 (LO + (R - 1000 * a1)))).below (Joins.below_alloc1 _ _)).congr fun i hi j hj => by
                unfold up2 faS
                by_cases e : i = k
                · subst e
                  rw [HMKE.out, ← HXE.out]
                  rcases (by omega : j = 0 ∨ j = 1 ∨ j = 2 ∨ j = 3 ∨ j = 4) with rfl | rfl | rfl | rfl | rfl
                  all_goals simp
                · by_cases e2 : i < k
                  · have e3 : i < k + 1 := by omega
                    simp [e, e2, e3]
                  · have e3 : ¬ i < k + 1 := by omega
                    simp [e, e2, e3]))
              have HMK9 : Hid (∀ i, i < k + 1 → (mkS S wet sec i).2.2.2 = 0) := Lib.hid fun i hi => by
                by_cases e : i = k
                · subst e; rw [HMKE.out, ← HXE.out]
                · exact HMK.out i (by omega)
              have HZL9 : Hid (w7.heap.size ≤ (((((w8.setCell ⟨g, k * 5 + 2, none⟩ (.int .i64 x2)).setCell ⟨g, k * 5 + 2 + 1, none⟩ (.int .i64 x3)).setCell ⟨g, k * 5 + 2 + 2, none⟩ (.int .i64 x4)).setCell ⟨w5.heap.size, 10, none⟩ (.int .i64 (LO + (R - 1000 * a1)))).alloc (.cells #[.int .i64 x2, .int .i64 x3, .int .i64 x4] 55)).heap.size) := Lib.hid (by simp; have h := HZL8.out; omega)
              clear HOX HR HB HMP HP HOI HMK HZL HR8 HB8 HMP8 HP8 HOG8 HZL8 HMKE HXE HMM HOX8 HOM HBA HC0 HC1 HOG
              go_wp2_with (at_lookup; refine wpList_lookup_own_int _ rfl _ _ 104 rfl 3 3 .i64 mapLaw Try.underlying104 Try.underlying3 (intZero _) mb mc Dm rfl ((ownsMap_set (ownsMap_set (ownsMap_set HOM8.out _) _) _).alloc _) _ _ rfl (keyOf_int_mk Try.underlying3 hwf) ?_; intro cc hat hwc; obtain rfl : R = cc := (lit_inj (hat.symm.trans HATR.out)).symm; clear hat hwc)
              go_roundw
              case rel => exact ⟨k + 1, HLT.out, by go_num, by rw [HLOE.out]; exact HOX9, HR9, HB9, HMP9, HP9, Lib.hid (fun _ => ⟨g, rfl, HOG9.out⟩), HMK9, HZL9⟩
              case measure => have := HLT.out; simp [intOf]; omega
            · have hE1 : (E == 0) = false := beq_eq_false_iff_ne.2 hE
              have hE2 : (E != 0) = true := by simp [hE]
              have HBAD : Hid (¬ StepOK S wet sec) := Lib.hid fun h => by
                have h1 := h.mks k HLT.out
                rw [HMKE.out, ← HXE.out] at h1
                exact hE h1
              clear hE p0 p1 HR
              have HR := HR8
              replace HR := Lib.hid (HR.out.below (Joins.below_alloc1 _ (.cells #[.int .i64 x2, .int .i64 x3, .int .i64 x4] 55)))
              have HB9 := Lib.hid (HB8.out.alloc HB8.out.size (.cells #[.int .i64 x2, .int .i64 x3, .int .i64 x4] 55))
              have HTH := Lib.hid HR.out.there
              have HZB := Lib.hid (HR.out.stored (.slice none 0 0) (.slice none 0 0) (.slice none 0 0) (.slice none 0 0) (.slice none 0 0) (.slice none 0 0) 0 0 0 0 0 0 0)
              clear HR
              go_upto_region 29 with fail
              go_step
              go_step
              go_step
              apply_assumption
              refine wpList_store_mid rfl 41 (.tmp 6) (.tmp 141) rfl (w.heap.size + 1) 0 #[.slice none 0 0, .slice none 0 0, .slice none 0 0, .slice none 0 0, .slice none 0 0, .slice none 0 0, .int .i64 0, .int .i64 0, .int .i64 0, .int .i64 0, .int .i64 0, .int .i64 0, .int .i64 0] rfl rfl HTH.out sys_size (by simp [Value.oneCell']) ?_
              change wpList _ _ _ _ _ ((w8.alloc (.cells #[.int .i64 x2, .int .i64 x3, .int .i64 x4] 55)).setCells (w.heap.size + 1) 0 [.slice none 0 0, .slice none 0 0, .slice none 0 0, .slice none 0 0, .slice none 0 0, .slice none 0 0, .int .i64 0, .int .i64 0, .int .i64 0, .int .i64 0, .int .i64 0, .int .i64 0, .int .i64 0])
              have HBZ := Lib.hid (HB9.out.trans ((setCells_only (w.heap.size + 1) [.slice none 0 0, .slice none 0 0, .slice none 0 0, .slice none 0 0, .slice none 0 0, .slice none 0 0, .int .i64 0, .int .i64 0, .int .i64 0, .int .i64 0, .int .i64 0, .int .i64 0, .int .i64 0] 0 (w8.alloc (.cells #[.int .i64 x2, .int .i64 x3, .int .i64 x4] 55))).below (Nat.le_succ _)))
              generalize (w8.alloc (.cells #[.int .i64 x2, .int .i64 x3, .int .i64 x4] 55)).setCells (w.heap.size + 1) 0 [.slice none 0 0, .slice none 0 0, .slice none 0 0, .slice none 0 0, .slice none 0 0, .slice none 0 0, .int .i64 0, .int .i64 0, .int .i64 0, .int .i64 0, .int .i64 0, .int .i64 0, .int .i64 0] = wz at HZB HBZ ⊢
              go_wp
              refine bodyPost_ret (step_results _ _ (w.heap.size + 1) rfl rfl HZB.out) rfl ?_
              refine StepPost.bad 12 (by decide) HBAD.out ?_
              exact HBZ.out
        · have hlti : decide ((k : Int) < (S.na : Int)) = false := decide_eq_false (by omega)
          obtain rfl : k = S.na := by omega
          have HCN := Lib.hid (counters_any (.slice A7 S.np c7) (.slice A1 S.nu c1) (.slice A2 S.ni c2) (.slice A3 S.nk c3) (.slice A4 S.ng c4) (.slice B S.na d) S.p S.l S.t (S.wa + V) (losS S wet sec S.na) (S.en + P * sec) (S.inn + I) wr rfl rfl rfl rfl rfl rfl)
          obtain ⟨LO, hLO⟩ : ∃ LO, LO = losS S wet sec S.na := ⟨_, rfl⟩
          rw [← hLO] at HCN HOX
          have HLO := Lib.hid hLO
          obtain ⟨cb, hcb⟩ : ∃ cb, cb = cntB (S.wa + V) LO (S.en + P * sec) (S.inn + I) := ⟨_, rfl⟩
          rw [← hcb] at HCN
          have HCB := Lib.hid hcb
          clear hLO hcb
          have x0 := HOX.out.c0
          have x1 := HOX.out.c1
          have x2 := HOX.out.c2
          have x3 := HOX.out.c3
          have x4 := HOX.out.c4
          have x5 := HOX.out.c5
          have x6 := HOX.out.c6
          have x7 := HOX.out.c7
          have x8 := HOX.out.c8
          have x9 := HOX.out.c9
          have x10 := HOX.out.c10
          have x11 := HOX.out.c11
          have x12 := HOX.out.c12
          go_wp2_with fail
          refine HCN.out.mono ?_
          rintro e w9 ⟨rfl, hb9⟩
          clear x0 x1 x2 x3 x4 x5 x6 x7 x8 x9 x10 x11 x12
          replace HOX := Lib.hid (HOX.out.below hb9)
          replace HR := Lib.hid (HR.out.below hb9)
          replace HB := Lib.hid (thru HB.out hb9 HB.out.size)
          replace HP := Lib.hid (HP.out.keep hb9 HZL.out)
          replace HOI : Hid (0 < S.na → ∃ g, B = some ⟨g, 0, none⟩ ∧ OwnI w4.heap.size w9 g 5 S.na (faS S wet sec S.na)) := Lib.hid fun hp => by
            obtain ⟨g, e, h⟩ := HOI.out hp
            exact ⟨g, e, h.below hb9⟩
          replace HZL : Hid (w7.heap.size ≤ w9.heap.size) := Lib.hid (by have h := HZL.out; have h2 := hb9.size; omega)
          clear hb9 HCN HMP hlti hlt
          cases cb with
          | false =>
            have HBAD : Hid (¬ StepOK S wet sec) := Lib.hid fun h => by
              have h1 := h.ct P Q HPW.out HQ.out (fun hn => by rw [HQ1.out hn, HV.out])
              have e1 := HCB.out
              rw [HV.out, HLO.out, HI.out] at e1
              simp only [sumV] at h1
              rw [h1] at e1
              cases e1
            have HTH := Lib.hid HR.out.there
            have HZB := Lib.hid (HR.out.stored (.slice none 0 0) (.slice none 0 0) (.slice none 0 0) (.slice none 0 0) (.slice none 0 0) (.slice none 0 0) 0 0 0 0 0 0 0)
            clear HR
            go_upto_region 34 with fail
            go_step
            go_step
            go_step
            apply_assumption
            refine wpList_store_mid rfl 41 (.tmp 6) (.tmp 165) rfl (w.heap.size + 1) 0 #[.slice none 0 0, .slice none 0 0, .slice none 0 0, .slice none 0 0, .slice none 0 0, .slice none 0 0, .int .i64 0, .int .i64 0, .int .i64 0, .int .i64 0, .int .i64 0, .int .i64 0, .int .i64 0] rfl rfl HTH.out sys_size (by simp [Value.oneCell']) ?_
            change wpList _ _ _ _ _ (w9.setCells (w.heap.size + 1) 0 [.slice none 0 0, .slice none 0 0, .slice none 0 0, .slice none 0 0, .slice none 0 0, .slice none 0 0, .int .i64 0, .int .i64 0, .int .i64 0, .int .i64 0, .int .i64 0, .int .i64 0, .int .i64 0])
            have HBZ := Lib.hid (HB.out.trans ((setCells_only (w.heap.size + 1) [.slice none 0 0, .slice none 0 0, .slice none 0 0, .slice none 0 0, .slice none 0 0, .slice none 0 0, .int .i64 0, .int .i64 0, .int .i64 0, .int .i64 0, .int .i64 0, .int .i64 0, .int .i64 0] 0 w9).below (Nat.le_succ _)))
            generalize w9.setCells (w.heap.size + 1) 0 [.slice none 0 0, .slice none 0 0, .slice none 0 0, .slice none 0 0, .slice none 0 0, .slice none 0 0, .int .i64 0, .int .i64 0, .int .i64 0, .int .i64 0, .int .i64 0, .int .i64 0, .int .i64 0] = wz at HZB HBZ ⊢
            go_wp
            refine bodyPost_ret (step_results _ _ (w.heap.size + 1) rfl rfl HZB.out) rfl ?_
            refine StepPost.bad 12 (by decide) HBAD.out ?_
            exact HBZ.out
          | true =>
            have x0 := HOX.out.c0
            have x1 := HOX.out.c1
            have x2 := HOX.out.c2
            have x3 := HOX.out.c3
            have x4 := HOX.out.c4
            have x5 := HOX.out.c5
            have x6 := HOX.out.c6
            have x7 := HOX.out.c7
            have x8 := HOX.out.c8
            have x9 := HOX.out.c9
            have x10 := HOX.out.c10
            have x11 := HOX.out.c11
            have x12 := HOX.out.c12
            have xf8 := HOX.out.f 8
            have xz := HOX.out.z
            have hso : w5.heap.size ≠ w.heap.size + 1 := by have h1 := HSW.out; have h2 := HW45.out; omega
            have hso2 : w.heap.size + 1 ≠ w5.heap.size := by omega
            replace HR := Lib.hid (HR.out.setFar (q := ⟨w5.heap.size, 8, none⟩) hso (.int .i64 (S.t + sec)))
            have HB8 := Lib.hid (HB.out.setCell (p := ⟨w5.heap.size, 8, none⟩) (by show w.heap.size ≤ w5.heap.size; have h := HSW.out; have h2 := HW45.out; omega) (.int .i64 (S.t + sec)))
            have HTH := Lib.hid HR.out.there
            have HZB := Lib.hid (HR.out.stored (.slice A7 S.np c7) (.slice A1 S.nu c1) (.slice A2 S.ni c2) (.slice A3 S.nk c3) (.slice A4 S.ng c4) (.slice B S.na d) S.p S.l (S.t + sec) (S.wa + V) LO (S.en + P * sec) (S.inn + I))
            clear HR
            go_upto_region 36 with fail
            go_step
            go_step
            go_step
            apply_assumption
            refine wpList_store_mid rfl 41 (.tmp 6) (.tmp 171) rfl (w.heap.size + 1) 0 #[.slice A7 S.np c7, .slice A1 S.nu c1, .slice A2 S.ni c2, .slice A3 S.nk c3, .slice A4 S.ng c4, .slice B S.na d, .int .i64 S.p, .int .i64 S.l, .int .i64 (S.t + sec), .int .i64 (S.wa + V), .int .i64 LO, .int .i64 (S.en + P * sec), .int .i64 (S.inn + I)] rfl rfl HTH.out sys_size (by simp [Value.oneCell']) ?_
            change wpList _ _ _ _ _ ((w9.setCell ⟨w5.heap.size, 8, none⟩ (.int .i64 (S.t + sec))).setCells (w.heap.size + 1) 0 [.slice A7 S.np c7, .slice A1 S.nu c1, .slice A2 S.ni c2, .slice A3 S.nk c3, .slice A4 S.ng c4, .slice B S.na d, .int .i64 S.p, .int .i64 S.l, .int .i64 (S.t + sec), .int .i64 (S.wa + V), .int .i64 LO, .int .i64 (S.en + P * sec), .int .i64 (S.inn + I)])
            have HBZ := Lib.hid (HB8.out.trans ((setCells_only (w.heap.size + 1) [.slice A7 S.np c7, .slice A1 S.nu c1, .slice A2 S.ni c2, .slice A3 S.nk c3, .slice A4 S.ng c4, .slice B S.na d, .int .i64 S.p, .int .i64 S.l, .int .i64 (S.t + sec), .int .i64 (S.wa + V), .int .i64 LO, .int .i64 (S.en + P * sec), .int .i64 (S.inn + I)] 0 (w9.setCell ⟨w5.heap.size, 8, none⟩ (.int .i64 (S.t + sec)))).below (Nat.le_succ _)))
            have HPZ := Lib.hid ((HP.out.set (p := ⟨w5.heap.size, 8, none⟩) (by show w5.heap.size < w6.heap.size; exact HOB6.out) (.int .i64 (S.t + sec))).only (setCells_only (w.heap.size + 1) [.slice A7 S.np c7, .slice A1 S.nu c1, .slice A2 S.ni c2, .slice A3 S.nk c3, .slice A4 S.ng c4, .slice B S.na d, .int .i64 S.p, .int .i64 S.l, .int .i64 (S.t + sec), .int .i64 (S.wa + V), .int .i64 LO, .int .i64 (S.en + P * sec), .int .i64 (S.inn + I)] 0 _) (by have h := HSW.out; have h2 := HW45.out; have h3 := HOB6.out; omega))
            have HZZ : Hid (w7.heap.size ≤ ((w9.setCell ⟨w5.heap.size, 8, none⟩ (.int .i64 (S.t + sec))).setCells (w.heap.size + 1) 0 [.slice A7 S.np c7, .slice A1 S.nu c1, .slice A2 S.ni c2, .slice A3 S.nk c3, .slice A4 S.ng c4, .slice B S.na d, .int .i64 S.p, .int .i64 S.l, .int .i64 (S.t + sec), .int .i64 (S.wa + V), .int .i64 LO, .int .i64 (S.en + P * sec), .int .i64 (S.inn + I)]).heap.size) := Lib.hid (by rw [(setCells_only (w.heap.size + 1) [.slice A7 S.np c7, .slice A1 S.nu c1, .slice A2 S.ni c2, .slice A3 S.nk c3, .slice A4 S.ng c4, .slice B S.na d, .int .i64 S.p, .int .i64 S.l, .int .i64 (S.t + sec), .int .i64 (S.wa + V), .int .i64 LO, .int .i64 (S.en + P * sec), .int .i64 (S.inn + I)] 0 _).size]; simp; exact HZL.out)
            have HOZ : Hid (RI ((w9.setCell ⟨w5.heap.size, 8, none⟩ (.int .i64 (S.t + sec))).setCells (w.heap.size + 1) 0 [.slice A7 S.np c7, .slice A1 S.nu c1, .slice A2 S.ni c2, .slice A3 S.nk c3, .slice A4 S.ng c4, .slice B S.na d, .int .i64 S.p, .int .i64 S.l, .int .i64 (S.t + sec), .int .i64 (S.wa + V), .int .i64 LO, .int .i64 (S.en + P * sec), .int .i64 (S.inn + I)]) B 5 S.na (faS S wet sec S.na)) := Lib.hid (final_packs HOI.out HGB.out HSW.out)
            generalize (w9.setCell ⟨w5.heap.size, 8, none⟩ (.int .i64 (S.t + sec))).setCells (w.heap.size + 1) 0 [.slice A7 S.np c7, .slice A1 S.nu c1, .slice A2 S.ni c2, .slice A3 S.nk c3, .slice A4 S.ng c4, .slice B S.na d, .int .i64 S.p, .int .i64 S.l, .int .i64 (S.t + sec), .int .i64 (S.wa + V), .int .i64 LO, .int .i64 (S.en + P * sec), .int .i64 (S.inn + I)] = wz at HZB HBZ HPZ HZZ HOZ ⊢
            go_wp
            refine bodyPost_ret (step_results _ _ (w.heap.size + 1) rfl rfl HZB.out) rfl ?_
            refine ⟨⟨_, _, _, _, _, _, _, _, _, _, _, _, _, _, rfl, ⟨rfl, rfl, rfl, rfl, rfl, rfl⟩, (fun _ => ⟨HR12.out.1, HR12.out.2, P, A7, c7, B, d, Q, HPW.out, HPL.out, by rw [HV.out], rfl, rfl, ?_, HMK.out, rfl, ?_, (fun hn => by rw [HQ1.out hn, HV.out])⟩), (fun _ => rfl)⟩, ?_⟩
            · exact HOZ.out
            · exact HPZ.out.ri HZZ.out
            · exact HBZ.out
  · have HBAD : Hid (¬ StepOK S wet sec) := Lib.hid fun h => by
      obtain ⟨P, h1, h2⟩ := h.pw
      exact hE (hok P h1 h2 h.low)
    have hE1 : (E == 0) = false := beq_eq_false_iff_ne.2 hE
    have hE2 : (E != 0) = true := by simp [hE]
    have HE := Lib.hid hE
    clear hgood hok hE
    have HTH := Lib.hid HR.out.there
    have HZB := Lib.hid (HR.out.stored (.slice none 0 0) (.slice none 0 0) (.slice none 0 0) (.slice none 0 0) (.slice none 0 0) (.slice none 0 0) 0 0 0 0 0 0 0)
    clear HR
    go_upto_region 5 with fail
    go_step
    go_step
    go_step
    apply_assumption
    go_step
    apply_assumption
    refine wpList_store_mid rfl 41 (.tmp 6) (.tmp 47) rfl (w.heap.size + 1) 0 #[.slice none 0 0, .slice none 0 0, .slice none 0 0, .slice none 0 0, .slice none 0 0, .slice none 0 0, .int .i64 0, .int .i64 0, .int .i64 0, .int .i64 0, .int .i64 0, .int .i64 0, .int .i64 0] rfl rfl HTH.out sys_size (by simp [Value.oneCell']) ?_
    change wpList _ _ _ _ _ (w1.setCells (w.heap.size + 1) 0 [.slice none 0 0, .slice none 0 0, .slice none 0 0, .slice none 0 0, .slice none 0 0, .slice none 0 0, .int .i64 0, .int .i64 0, .int .i64 0, .int .i64 0, .int .i64 0, .int .i64 0, .int .i64 0])
    have HBZ := Lib.hid (HB.out.trans ((setCells_only (w.heap.size + 1) [.slice none 0 0, .slice none 0 0, .slice none 0 0, .slice none 0 0, .slice none 0 0, .slice none 0 0, .int .i64 0, .int .i64 0, .int .i64 0, .int .i64 0, .int .i64 0, .int .i64 0, .int .i64 0] 0 w1).below (Nat.le_succ _)))
    generalize w1.setCells (w.heap.size + 1) 0 [.slice none 0 0, .slice none 0 0, .slice none 0 0, .slice none 0 0, .slice none 0 0, .slice none 0 0, .int .i64 0, .int .i64 0, .int .i64 0, .int .i64 0, .int .i64 0, .int .i64 0, .int .i64 0] = wz at HZB HBZ ⊢
    go_wp
    refine bodyPost_ret (step_results _ _ (w.heap.size + 1) rfl rfl HZB.out) rfl ?_
    refine StepPost.bad E HE.out HBAD.out ?_
    exact HBZ.out
end Go.Proofs.Ytljhocdbfbjpiaa
