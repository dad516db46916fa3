/-
  Why a system may not run.
-/
import Derived.Test.YtljhocdbfbjpiaaWtPower
import Derived.Test.YtljhocdbfbjpiaaWtLow
namespace Go.Proofs.Ytljhocdbfbjpiaa
open Go.RowKit

theorem PowR.err {S : Sys} {wet P E : Int} (h : PowR S wet P E) : E = 0 ∨ (E = 9 ∧ ∀ Q, ¬ PowR S wet Q 0) := by
  rcases h with ⟨h, _⟩ | ⟨h, hb⟩
  · exact .inl h
  · refine .inr ⟨h, fun Q hq => ?_⟩
    rcases hq with ⟨_, Qb, hc, _⟩ | ⟨h, _⟩
    · rcases hc with ⟨_, ⟨ch, h1, _⟩, _⟩ | ⟨h, _⟩
      · rcases hb with ⟨h, _⟩ | ⟨_, _, h2⟩
        · cases h
        · have := h2 ch; omega
      · cases h
    · cases h
abbrev neS (S : Sys) : List (Int × Int) := neL S.K S.nk S.fg S.ng
def WhyPost (S : Sys) (wet : Int) (w : World) (e : Ending) (w' : World) : Prop :=
  (∃ E : Int, e = .returned (.int .i64 E) ∧ (E = 0 → ∃ P, PowR S wet P 0 ∧ P ≤ S.l) ∧ (∀ P, PowR S wet P 0 → P ≤ S.l → LowOK S.fi S.ni S.p (neS S) → E = 0)) ∧ Below w.heap.size w w'
set_option maxRecDepth 40000 in
set_option maxHeartbeats 8000000 in
theorem why_any (S : Sys) (wet : Int) (w : World) (hM : SysM w S) (hZ : SysZ S) (hR : SysR S) (hp0 : 0 ≤ S.p) (hp1 : S.p ≤ 10000000) :
    Calls Try.prog 33 #[sysS S, .int .i64 wet] w (WhyPost S wet w) := by
  have HM := Lib.hid hM
  have HZ := Lib.hid hZ
  have hb0 : Below w.heap.size w (w.alloc (.cells #[.slice S.po S.np S.cp, .slice S.pu S.nu S.cu, .slice S.pi S.ni S.ci, .slice S.ki S.nk S.ck, .slice S.gu S.ng S.cg, .slice S.pa S.na S.ca, .int .i64 S.p, .int .i64 S.l, .int .i64 S.t, .int .i64 S.wa, .int .i64 S.lo, .int .i64 S.en, .int .i64 S.inn] 41)) := Joins.below_alloc1 _ _
  have hx0 := BoxAt.mk0 w (.slice S.po S.np S.cp) (.slice S.pu S.nu S.cu) (.slice S.pi S.ni S.ci) (.slice S.ki S.nk S.ck) (.slice S.gu S.ng S.cg) (.slice S.pa S.na S.ca) S.p S.l S.t S.wa S.lo S.en S.inn
  have HPW := Lib.hid (power_any S wet _ (hM.below hb0) hZ hR)
  have HX0 := Lib.hid hx0
  have HB0 := Lib.hid hb0
  have HLEN := Lib.hid (drL_len S.K S.nk S.fg wet S.ng)
  have HLEN2 := Lib.hid (neL_len S.K S.nk S.fg S.ng)
  clear hM hZ hR hb0 hx0
  go_enter Try.func33, Try.ntmps33
  go_wp2_with fail
  refine HPW.out.mono ?_
  rintro e w1 ⟨⟨P, E, rfl, hpr, hP0, hP1⟩, hb1⟩
  have HPR := Lib.hid hpr
  have HX1 := Lib.hid (HX0.out.below hb1)
  have HB1 := Lib.hid (thru HB0.out hb1 HB0.out.size)
  rcases hpr.err with rfl | ⟨rfl, hno⟩
  · clear hpr hb1 HX0 HB0 HPW
    have b7 := HX1.out.c7
    by_cases hl : S.l < P
    · have HBAD : Hid (∀ Q, PowR S wet Q 0 → Q ≤ S.l → LowOK S.fi S.ni S.p (neS S) → (13 : Int) = 0) := Lib.hid fun Q hq hql _ => by
        have := PowR.uniq HPR.out hq
        omega
      go_wp2
      go_ret
      exact ⟨⟨13, rfl, (fun h => by cases h), HBAD.out⟩, HB1.out⟩
    · have hlf : decide (S.l < P) = false := decide_eq_false hl
      have HL : Hid (P ≤ S.l) := Lib.hid (by omega)
      have HD := Lib.hid (draws_any S.nk S.ng S.ck S.cg S.K S.fg wet S.ki S.gu w1 (HM.out.below HB1.out).ki (HM.out.below HB1.out).gu (by have := HZ.out.nk; omega) (by have := HZ.out.ng; omega))
      have b3 := HX1.out.c3
      have b4 := HX1.out.c4
      go_wp2_with fail
      refine HD.out.mono ?_
      rintro e w2 ⟨⟨D, c, rfl, hD⟩, hb2⟩
      have HDR := Lib.hid hD
      have HX2 := Lib.hid (HX1.out.below hb2)
      have HB2 := Lib.hid (thru HB1.out hb2 HB1.out.size)
      clear hD hb2 b7 b3 b4 HD HX1 HB1 hl hlf
      have k2 := HX2.out.c2
      have k3 := HX2.out.c3
      have k4 := HX2.out.c4
      have k6 := HX2.out.c6
      have kz := HX2.out.z
      have HNC : Hid (∀ W, Below w2.heap.size w2 W → Calls Try.prog 63 #[.slice S.ki S.nk S.ck, .slice S.gu S.ng S.cg] W fun e w' => (∃ D' c', e = .returned (.slice D' (neL S.K S.nk S.fg S.ng).length c') ∧ RdP w' D' (neL S.K S.nk S.fg S.ng)) ∧ Below W.heap.size W w') := Lib.hid fun W hW => by
        have hm := (HM.out.below HB2.out).below hW
        exact needs_any S.nk S.ng S.ck S.cg S.K S.fg S.ki S.gu W hm.ki hm.gu (by have := HZ.out.nk; omega) (by have := HZ.out.ng; omega)
      have HLC : Hid (∀ W D' c', Below w2.heap.size w2 W → RdP W D' (neL S.K S.nk S.fg S.ng) → Calls Try.prog 62 #[.slice S.pi S.ni S.ci, .slice D (drL S.K S.nk S.fg wet S.ng).length c, .int .i64 S.p, .slice D' (neL S.K S.nk S.fg S.ng).length c'] W (LowPost S.fi S.ni S.p (neS S) W)) := Lib.hid fun W D' c' hW hD' => by
        have hm := (HM.out.below HB2.out).below hW
        exact low_any S.ni S.ci c c' S.fi (drS S wet) (neS S) S.p S.pi D D' W hm.pi (HDR.out.below hW) hD' HZ.out.ni (by have := HLEN.out; have := HZ.out.ng; show (drL S.K S.nk S.fg wet S.ng).length ≤ 1000; omega) (by have := HLEN2.out; have := HZ.out.ng; show (neL S.K S.nk S.fg S.ng).length ≤ 1000; omega) hp0 hp1
      have hn8 : (neL S.K S.nk S.fg S.ng).length ≤ 8 := by have := HLEN2.out; have := HZ.out.ng; omega
      go_wp2_with fail
      go_cut [39] from 27 to 39 (fun v39 wv => ∃ (b : Bool) (wx : World), wx = wv ∧ v39 = .bool b ∧ Hid (LowOK S.fi S.ni S.p (neS S) → b = false) ∧ Hid (Below w2.heap.size w2 wx))
      case first =>
        go_region_held3 (fun w' => w'.cell? ⟨w.heap.size, 2, none⟩ = some (.slice S.pi S.ni S.ci) ∧ w'.cell? ⟨w.heap.size, 3, none⟩ = some (.slice S.ki S.nk S.ck) ∧ w'.cell? ⟨w.heap.size, 4, none⟩ = some (.slice S.gu S.ng S.cg) ∧ w'.cell? ⟨w.heap.size, 6, none⟩ = some (.int .i64 S.p)) (first | with_reducible exact ⟨k2, k3, k4, k6⟩ | with_reducible exact ⟨m2, m3, m4, m6⟩ | with_reducible exact ⟨q2, q3, q4, q6⟩ | (simp [go_sem, k2, k3, k4, k6]; done)) (first
          | (go_at_call 63; (with_reducible refine (HNC.out _ (by first | exact Below.refl _ _ | exact (Below.refl _ _).drew)).mono ?_); rintro e w3 ⟨⟨D', c', rfl, hD'⟩, hb3⟩; have z3 := Nat.lt_of_lt_of_le kz hb3.size; have m2 := (hb3.cell (p := ⟨w.heap.size, 2, none⟩) kz).trans k2; have m3 := (hb3.cell (p := ⟨w.heap.size, 3, none⟩) kz).trans k3; have m4 := (hb3.cell (p := ⟨w.heap.size, 4, none⟩) kz).trans k4; have m6 := (hb3.cell (p := ⟨w.heap.size, 6, none⟩) kz).trans k6; have b3 : Below w2.heap.size w2 w3 := thru (B := w2.heap.size) (by first | exact Below.refl _ _ | exact (Below.refl _ _).drew) hb3 (Nat.le_refl _))
          | (go_at_call 62; (with_reducible refine (HLC.out w3 D' c' b3 hD').mono ?_); rintro e w4 ⟨⟨A4, m, c4, rfl, hlow, hml⟩, hb4⟩; have q2 := (hb4.cell (p := ⟨w.heap.size, 2, none⟩) z3).trans m2; have q3 := (hb4.cell (p := ⟨w.heap.size, 3, none⟩) z3).trans m3; have q4 := (hb4.cell (p := ⟨w.heap.size, 4, none⟩) z3).trans m4; have q6 := (hb4.cell (p := ⟨w.heap.size, 6, none⟩) z3).trans m6; have b4 : Below w2.heap.size w2 w4 := thru (B := w2.heap.size) b3 hb4 b3.size))
        all_goals
          go_wp2_with fail
          go_meet
          exact ⟨decide (0 < m), w4, rfl, rfl, Lib.hid (fun h => by rw [hlow h]; rfl), Lib.hid b4⟩
      case rest =>
        obtain ⟨b, wx, rfl, rfl, HLB, HBX⟩ := hcut
        have HBF := Lib.hid (HB2.out.trans (HBX.out.mono HB2.out.size))
        have HGOOD : Hid (∃ P, PowR S wet P 0 ∧ P ≤ S.l) := Lib.hid ⟨P, HPR.out, HL.out⟩
        clear k2 k3 k4 k6 HNC HLC
        cases b with
        | true =>
          have HBAD : Hid (∀ Q, PowR S wet Q 0 → Q ≤ S.l → LowOK S.fi S.ni S.p (neS S) → (5 : Int) = 0) := Lib.hid fun Q _ _ h => by
            have := HLB.out h
            cases this
          go_wp2
          go_ret
          exact ⟨⟨5, rfl, (fun h => by cases h), HBAD.out⟩, HBF.out⟩
        | false =>
          go_wp2
          go_ret
          exact ⟨⟨0, rfl, (fun _ => HGOOD.out), (fun _ _ _ _ => rfl)⟩, HBF.out⟩
  · have HNO := Lib.hid hno
    clear hpr hb1 HX0 HB0 HPW hno
    go_wp2
    go_ret
    exact ⟨⟨9, rfl, (fun h => by cases h), fun Q hq _ _ => absurd hq (HNO.out Q)⟩, HB1.out⟩
end Go.Proofs.Ytljhocdbfbjpiaa
