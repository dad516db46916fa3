/-
  The search for the shifts: one step of it.
-/
import Derived.Test.YtljhocdbfbjpiaaRouteE
namespace Go.Proofs.Ytljhocdbfbjpiaa
open Go.RowKit

def putP (t : RP) (i : Nat) (s : Sh) : RP := if i = 0 then { t with p0 := s } else { t with p1 := s }
def StepOk (L : SL) (B : Nat) (w : World) (p0 p1 : Sh) (left from_ fin : Int) (St : Nat → RP) (i k : Nat) : Prop :=
  (eE p0 p1 (k + 1) < from_ → St (2 * i + k + 1) = St (2 * i + k)) ∧
  (from_ ≤ eE p0 p1 (k + 1) → (0 ≤ eE p0 p1 (k + 1) ∧ eE p0 p1 (k + 1) ≤ 1000) ∧
    ∀ W1, SP L B w W1 (putP (St (2 * i + k)) i ⟨k + 1, i + 1, eE p0 p1 (k + 1), eE p0 p1 (k + 1) + 10 * (i + 1)⟩) →
      Calls Try.prog 49 #[.pointer (some ⟨L.S, 0, none⟩), .int .i64 (left - 1), .int .i64 (eE p0 p1 (k + 1)), .int .i64 (max fin (eE p0 p1 (k + 1) + 10 * (i + 1)))] W1
        (PlacePost L B w W1 (putP (St (2 * i + k + 1)) i ⟨k + 1, i + 1, eE p0 p1 (k + 1), eE p0 p1 (k + 1) + 10 * (i + 1)⟩)))
structure TaskAt (W : World) (T : Nat) (r s : Int) : Prop where
  c0 : W.cell? ⟨T, 0, none⟩ = some (.int .i64 r)
  c1 : W.cell? ⟨T, 1, none⟩ = some (.int .i64 s)
  c2 : W.cell? ⟨T, 2, none⟩ = some (.bool false)

theorem TaskAt.set {W : World} {T a i : Nat} {r s : Int} (h : TaskAt W T r s) (hn : ¬ (a = T)) (v : Value) : TaskAt (W.setCell ⟨a, i, none⟩ v) T r s :=
  ⟨(sp_o hn v).trans h.c0, (sp_o hn v).trans h.c1, (sp_o hn v).trans h.c2⟩
theorem TaskAt.kept {W W' : World} {L : SL} {T : Nat} {r s : Int} (h : TaskAt W T r s) (hk : Kept L.own W W') (hz : T < W.heap.size) (hn : L.S ≠ T ∧ L.pl ≠ T ∧ L.bs ≠ T) : TaskAt W' T r s := by
  have ho : ¬ L.own T := fun e => by
    rcases e with e | e | e
    · exact hn.1 e.symm
    · exact hn.2.1 e.symm
    · exact hn.2.2 e.symm
  exact ⟨(hk.cell hz ho).trans h.c0, (hk.cell hz ho).trans h.c1, (hk.cell hz ho).trans h.c2⟩
theorem rp_p0 {t : RP} {s : Sh} (h : t.p0 = s) : ({ t with p0 := s } : RP) = t := by
  cases t; simp at h; subst h; rfl
theorem rp_p1 {t : RP} {s : Sh} (h : t.p1 = s) : ({ t with p1 := s } : RP) = t := by
  cases t; simp at h; subst h; rfl
theorem TaskAt.on {W W' : World} {T : Nat} {r s : Int} (h : TaskAt W T r s) (hb : Below W.heap.size W W') (hz : T < W.heap.size) : TaskAt W' T r s :=
  ⟨(hb.cell (p := ⟨T, 0, none⟩) hz).trans h.c0, (hb.cell (p := ⟨T, 1, none⟩) hz).trans h.c1, (hb.cell (p := ⟨T, 2, none⟩) hz).trans h.c2⟩

set_option maxRecDepth 20000 in
set_option maxHeartbeats 16000000 in
theorem place_level (L : SL) (B : Nat) (w W : World) (p0 p1 : Sh) (B0 B1 : Nat → Sh) (E : Nat → Int) (left from_ fin : Int) (hl : 1 ≤ left ∧ left ≤ 2) (hf : 0 ≤ fin ∧ fin ≤ 1000) (he : fin < E 0)
    (h0 : p0.g ≠ 0 → (⟨p0, p1, B0 2, B1 2, E 2⟩ : RP) = ⟨p0, p1, B0 0, B1 0, E 0⟩) (h1 : p1.g ≠ 0 → (⟨p0, p1, B0 4, B1 4, E 4⟩ : RP) = ⟨p0, p1, B0 2, B1 2, E 2⟩)
    (z0 : p0.g = 0 → p0 = Sh.zero ∧ ∀ k, k < 2 → StepOk L B w p0 p1 left from_ fin (fun j => ⟨p0, p1, B0 j, B1 j, E j⟩) 0 k)
    (z1 : p1.g = 0 → p1 = Sh.zero ∧ ∀ k, k < 2 → StepOk L B w p0 p1 left from_ fin (fun j => ⟨p0, p1, B0 j, B1 j, E j⟩) 1 k)
    (hS : SP L B w W ⟨p0, p1, B0 0, B1 0, E 0⟩) :
    Calls Try.prog 49 #[.pointer (some ⟨L.S, 0, none⟩), .int .i64 left, .int .i64 from_, .int .i64 fin] W (PlacePost L B w W ⟨p0, p1, B0 4, B1 4, E 4⟩) := by
  obtain ⟨St, hSt⟩ : ∃ St : Nat → RP, St = fun j => ⟨p0, p1, B0 j, B1 j, E j⟩ := ⟨_, rfl⟩
  have hp0 : ∀ j, (St j).p0 = p0 := fun j => by rw [hSt]
  have hp1 : ∀ j, (St j).p1 = p1 := fun j => by rw [hSt]
  have e0 : (⟨p0, p1, B0 0, B1 0, E 0⟩ : RP) = St 0 := by rw [hSt]
  have e2 : (⟨p0, p1, B0 2, B1 2, E 2⟩ : RP) = St 2 := by rw [hSt]
  have e4 : (⟨p0, p1, B0 4, B1 4, E 4⟩ : RP) = St 4 := by rw [hSt]
  rw [← hSt] at z0 z1
  rw [e0] at h0 hS
  rw [e2] at h0 h1
  rw [e4] at h1 ⊢
  have hE : E 0 = (St 0).e := by rw [hSt]
  clear e0 e2 e4 hSt
  have HS := Lib.hid hS
  have s0 := hS.f.s0
  have e5 := hS.v.e
  have zS := hS.f.zS
  rw [← hE] at e5
  have hd : decide (E 0 ≤ fin) = false := decide_eq_false (by omega)
  have hln : (left == 0) = false := beq_eq_false_iff_ne.2 (by omega)
  have eL : IntKind.i64.wrap (left - 1) = left - 1 := IntWalk.i64_in _ (by omega)
  have HP := Lib.hid (And.intro hp0 hp1)
  have H0 := Lib.hid h0
  have H1 := Lib.hid h1
  have Z0 := Lib.hid z0
  have Z1 := Lib.hid z1
  have HL := Lib.hid hl
  have HF := Lib.hid hf
  have HW0 := Lib.hid (And.intro hS.f.zS (And.intro hS.f.zp hS.f.zs))
  clear hS hE he h0 h1 z0 z1 hp0 hp1 hl hf
  go_enter Try.func49, Try.ntmps49
  go_wp2
  go_loopw [39] (fun j wr => ((j = .int .i64 0 ∧ SP L B w wr (St 0)) ∨ (j = .int .i64 1 ∧ SP L B w wr (St 2)) ∨ (j = .int .i64 2 ∧ SP L B w wr (St 4))) ∧ Kept L.own W wr) (fun j _ => 2 - (intOf j).toNat)
  case atStart => exact ⟨.inl ⟨rfl, HS.out⟩, Kept.refl _ _⟩
  case round =>
    obtain ⟨hj, hK⟩ := hrel
    have HK := Lib.hid hK
    clear s0 e5 zS hK
    rcases hj with ⟨rfl, hR⟩ | ⟨rfl, hR⟩ | ⟨rfl, hR⟩
    · have HR := Lib.hid hR
      have s0 := hR.f.s0
      have s1 := hR.f.s1
      have s3 := hR.f.s3
      have zS := hR.f.zS
      have zb := hR.f.zb
      have zp := hR.f.zp
      obtain ⟨a0, a1, a2, a3, b0, b1, b2, b3⟩ := hR.f.tsk
      have g0 := hR.v.p00
      rw [HP.out.1] at g0
      obtain ⟨G, hG⟩ : ∃ G, G = p0.g := ⟨_, rfl⟩
      rw [← hG] at g0
      have HG := Lib.hid hG
      clear hR hG
      by_cases hz : G = 0
      · have ZZ := Lib.hid (Z0.out (by rw [← HG.out]; exact hz))
        have hn : (G != 0) = false := by rw [hz]; rfl
        have NT := Lib.hid (show L.S ≠ wr.heap.size ∧ L.pl ≠ wr.heap.size ∧ L.bs ≠ wr.heap.size from ⟨by have := HR.out.f.zS; omega, by have := HR.out.f.zp; omega, by have := HR.out.f.zs; omega⟩)
        clear hz
        rename World => wo
        go_wp2
        go_loopw [58] (fun j wi => ((j = .int .i64 0 ∧ SP L B w wi (St 0)) ∨ (j = .int .i64 1 ∧ SP L B w wi (St 1)) ∨ (j = .int .i64 2 ∧ SP L B w wi (St 2))) ∧ TaskAt wi wo.heap.size 1 10 ∧ wo.heap.size < wi.heap.size ∧ Kept L.own W wi) (fun j _ => 2 - (intOf j).toNat)
        case atStart => exact ⟨.inl ⟨rfl, HR.out.on (Joins.below_alloc1 _ _) HR.out.lo⟩, ⟨by simp [go_sem], by simp [go_sem], by simp [go_sem]⟩, by simp, HK.out.trans (Kept.of_below (Joins.below_alloc1 _ _))⟩
        case round =>
          obtain ⟨hj, hTK, zT, hKI⟩ := hrel
          have HTK := Lib.hid hTK
          have HKI := Lib.hid hKI
          clear s0 s1 s3 zS zb zp a0 a1 a2 a3 b0 b1 b2 b3 g0 hTK hKI hn
          generalize wo.heap.size = t9 at *
          rcases hj with ⟨rfl, hI⟩ | ⟨rfl, hI⟩ | ⟨rfl, hI⟩
          all_goals
            have HI := Lib.hid hI
            clear hI
          · skip
            have hstep := ZZ.out.2 0 (by omega)
            unfold StepOk at hstep
            obtain ⟨T, hT⟩ : ∃ T, T = eE p0 p1 (((0 : Nat) : Int) + 1) := ⟨_, rfl⟩
            rw [← hT] at hstep
            have hC := earliest_any L B w wr (St 0) 0 (((0 : Nat) : Int) + 1) (by omega) HI.out
            rw [HP.out.1, HP.out.2, ← hT] at hC
            have HC := Lib.hid hC
            have HT := Lib.hid hT
            have HSTEP := Lib.hid hstep
            have s1 := HI.out.f.s1
            have w0 := HI.out.f.w0
            have zS := HI.out.f.zS
            have zq := HI.out.f.zq
            have t2 := HTK.out.c2
            clear hC hT hstep
            by_cases hlt : T < from_
            · have HEQ := Lib.hid (HSTEP.out.1 hlt)
              go_wp2_with fail
              refine HC.out.mono ?_
              rintro e w2 ⟨rfl, hb2⟩
              have HI2 := Lib.hid (HI.out.on hb2 HI.out.lo)
              have HK2 := Lib.hid (HKI.out.trans (Kept.of_below hb2))
              have HT2 := Lib.hid (HTK.out.on hb2 zT)
              have zT2 : t9 < w2.heap.size := Nat.lt_of_lt_of_le zT hb2.size
              clear hb2 HC
              go_wp2
              go_roundw
              case rel => exact ⟨.inr (.inl ⟨by go_num, by rw [show 1 = 2 * 0 + 0 + 1 from rfl, HEQ.out]; exact HI2.out⟩), HT2.out, zT2, HK2.out⟩
              case measure => simp [intOf]
            · have hlt2 : decide (T < from_) = false := decide_eq_false hlt
              obtain ⟨⟨b1, b2⟩, hcall⟩ := HSTEP.out.2 (by omega)
              have hcall2 : ∀ W1, SP L B w W1 { St 0 with p0 := ⟨1, 1, T, T + 10⟩ } → Calls Try.prog 49 #[.pointer (some ⟨L.S, 0, none⟩), .int .i64 (left - 1), .int .i64 T, .int .i64 (max fin (T + 10))] W1 (PlacePost L B w W1 { St 1 with p0 := ⟨1, 1, T, T + 10⟩ }) := fun W1 h => hcall W1 h
              obtain ⟨M, hM⟩ : ∃ M, M = max fin (T + 10) := ⟨_, rfl⟩
              rw [← hM] at hcall2
              have hMc : (fin < T + 10 ∧ M = T + 10) ∨ (¬ fin < T + 10 ∧ M = fin) := by omega
              have HCALL := Lib.hid hcall2
              have e1 : IntKind.i64.wrap (T + 10) = T + 10 := IntWalk.i64_in _ (by omega)
              have e1' : wrap64 (T + 10) = T + 10 := by unfold wrap64; omega
              clear hcall hcall2 hlt hM
              rcases hMc with ⟨hm, hM⟩ | ⟨hm, hM⟩
              all_goals
                subst hM
                go_wp2_with fail
                refine HC.out.mono ?_
                rintro e w2 ⟨rfl, hb2⟩
                have HI2 := Lib.hid (HI.out.on hb2 HI.out.lo)
                have HK2 := Lib.hid (HKI.out.trans (Kept.of_below hb2))
                have HT2 := Lib.hid (HTK.out.on hb2 zT)
                have zT2 : t9 < w2.heap.size := Nat.lt_of_lt_of_le zT hb2.size
                have u0 := HT2.out.c0
                have u1 := HT2.out.c1
                have q3 := HI2.out.f.s3
                have zS2 := HI2.out.f.zS
                have zp2 := HI2.out.f.zp
                have fp2 := HI2.out.f.fp
                have nT : ¬ (L.pl = t9) := NT.out.2.1
                have nS : ¬ (L.pl = L.S) := HI2.out.n.pS
                have g0 := HI2.out.v.p00
                have g1 := HI2.out.v.p01
                have g2 := HI2.out.v.p02
                have g3 := HI2.out.v.p03
                clear hb2 HC s1 w0 zS zq t2
                go_wp2
                go_region
                have hSP3 := ((((HI2.out.set00 1).set01 1).set02 T).set03 (T + 10)).on (below_drew (Below.refl _ _)) (by simpa using HI2.out.lo)
                have hK3 := (((((Kept.refl L.own w2).set (p := ⟨L.pl, 0, none⟩) (.inr (.inl rfl)) (.int .i64 1)).set (p := ⟨L.pl, 1, none⟩) (.inr (.inl rfl)) (.int .i64 1)).set (p := ⟨L.pl, 2, none⟩) (.inr (.inl rfl)) (.int .i64 T)).set (p := ⟨L.pl, 3, none⟩) (.inr (.inl rfl)) (.int .i64 (T + 10))).trans (Kept.of_below (below_drew (Below.refl _ _)))
                have HK3 := Lib.hid (HK2.out.trans hK3)
                have hT3 := (((((HT2.out.set (i := 0) nT (.int .i64 1)).set (i := 1) nT (.int .i64 1)).set (i := 2) nT (.int .i64 T)).set (i := 3) nT (.int .i64 (T + 10))).on (below_drew (Below.refl _ _)) (by simpa using zT2))
                have hC4 := HCALL.out _ hSP3
                have HC4 := Lib.hid hC4
                have HT3 := Lib.hid hT3
                have zT3 : t9 < ((((w2.setCell ⟨L.pl, 0, none⟩ (.int .i64 1)).setCell ⟨L.pl, 1, none⟩ (.int .i64 1)).setCell ⟨L.pl, 2, none⟩ (.int .i64 T)).setCell ⟨L.pl, 3, none⟩ (.int .i64 (T + 10))).drew.heap.size := by simpa using zT2
                have ZT3 := Lib.hid zT3
                clear hSP3 hK3 hT3 hC4 zT3
                go_wp2_with fail
                refine HC4.out.mono ?_
                rintro e w4 ⟨rfl, hSP4, hK4⟩
                have hT4 := HT3.out.kept hK4 ZT3.out NT.out
                have zT4 : t9 < w4.heap.size := Nat.lt_of_lt_of_le ZT3.out hK4.size
                have HK4 := Lib.hid (HK3.out.trans hK4)
                have hfin := (((hSP4.set00 0).set01 0).set02 0).set03 0
                have hz0 : (St 1).p0 = Sh.zero := by rw [HP.out.1]; exact ZZ.out.1
                have hback : ({ St 1 with p0 := ⟨0, 0, 0, 0⟩ } : RP) = St 1 := rp_p0 hz0
                have hfin2 : SP L B w ((((w4.setCell ⟨L.pl, 0, none⟩ (.int .i64 0)).setCell ⟨L.pl, 1, none⟩ (.int .i64 0)).setCell ⟨L.pl, 2, none⟩ (.int .i64 0)).setCell ⟨L.pl, 3, none⟩ (.int .i64 0)) (St 1) := by rw [← hback]; exact hfin
                have HFIN := Lib.hid hfin2
                have HTF := Lib.hid ((((hT4.set (i := 0) nT (.int .i64 0)).set (i := 1) nT (.int .i64 0)).set (i := 2) nT (.int .i64 0)).set (i := 3) nT (.int .i64 0))
                have HKF := Lib.hid ((((HK4.out.set (p := ⟨L.pl, 0, none⟩) (.inr (.inl rfl)) (.int .i64 0)).set (p := ⟨L.pl, 1, none⟩) (.inr (.inl rfl)) (.int .i64 0)).set (p := ⟨L.pl, 2, none⟩) (.inr (.inl rfl)) (.int .i64 0)).set (p := ⟨L.pl, 3, none⟩) (.inr (.inl rfl)) (.int .i64 0))
                have v3 := hSP4.f.s3
                have y1 := hSP4.f.zS
                have y2 := hSP4.f.zp
                have fp4 := hSP4.f.fp
                have x0 := hSP4.v.p00
                have x1 := hSP4.v.p01
                have x2 := hSP4.v.p02
                have x3 := hSP4.v.p03
                clear hSP4 hK4 hT4 hfin hfin2 hback hz0 HC4 u0 u1 q3 zS2 zp2 fp2 g0 g1 g2 g3
                go_wp2
                go_roundw
                case rel => exact ⟨.inr (.inl ⟨by go_num, HFIN.out⟩), HTF.out, by simpa using zT4, HKF.out⟩
                case measure => simp [intOf]
          · skip
            have hstep := ZZ.out.2 1 (by omega)
            unfold StepOk at hstep
            obtain ⟨T, hT⟩ : ∃ T, T = eE p0 p1 (((1 : Nat) : Int) + 1) := ⟨_, rfl⟩
            rw [← hT] at hstep
            have hC := earliest_any L B w wr (St 1) 0 (((1 : Nat) : Int) + 1) (by omega) HI.out
            rw [HP.out.1, HP.out.2, ← hT] at hC
            have HC := Lib.hid hC
            have HT := Lib.hid hT
            have HSTEP := Lib.hid hstep
            have s1 := HI.out.f.s1
            have w1 := HI.out.f.w1
            have zS := HI.out.f.zS
            have zq := HI.out.f.zq
            have t2 := HTK.out.c2
            clear hC hT hstep
            by_cases hlt : T < from_
            · have HEQ := Lib.hid (HSTEP.out.1 hlt)
              go_wp2_with fail
              refine HC.out.mono ?_
              rintro e w2 ⟨rfl, hb2⟩
              have HI2 := Lib.hid (HI.out.on hb2 HI.out.lo)
              have HK2 := Lib.hid (HKI.out.trans (Kept.of_below hb2))
              have HT2 := Lib.hid (HTK.out.on hb2 zT)
              have zT2 : t9 < w2.heap.size := Nat.lt_of_lt_of_le zT hb2.size
              clear hb2 HC
              go_wp2
              go_roundw
              case rel => exact ⟨.inr (.inr ⟨by go_num, by rw [show 2 = 2 * 0 + 1 + 1 from rfl, HEQ.out]; exact HI2.out⟩), HT2.out, zT2, HK2.out⟩
              case measure => simp [intOf]
            · have hlt2 : decide (T < from_) = false := decide_eq_false hlt
              obtain ⟨⟨b1, b2⟩, hcall⟩ := HSTEP.out.2 (by omega)
              have hcall2 : ∀ W1, SP L B w W1 { St 1 with p0 := ⟨2, 1, T, T + 10⟩ } → Calls Try.prog 49 #[.pointer (some ⟨L.S, 0, none⟩), .int .i64 (left - 1), .int .i64 T, .int .i64 (max fin (T + 10))] W1 (PlacePost L B w W1 { St 2 with p0 := ⟨2, 1, T, T + 10⟩ }) := fun W1 h => hcall W1 h
              obtain ⟨M, hM⟩ : ∃ M, M = max fin (T + 10) := ⟨_, rfl⟩
              rw [← hM] at hcall2
              have hMc : (fin < T + 10 ∧ M = T + 10) ∨ (¬ fin < T + 10 ∧ M = fin) := by omega
              have HCALL := Lib.hid hcall2
              have e1 : IntKind.i64.wrap (T + 10) = T + 10 := IntWalk.i64_in _ (by omega)
              have e1' : wrap64 (T + 10) = T + 10 := by unfold wrap64; omega
              clear hcall hcall2 hlt hM
              rcases hMc with ⟨hm, hM⟩ | ⟨hm, hM⟩
              all_goals
                subst hM
                go_wp2_with fail
                refine HC.out.mono ?_
                rintro e w2 ⟨rfl, hb2⟩
                have HI2 := Lib.hid (HI.out.on hb2 HI.out.lo)
                have HK2 := Lib.hid (HKI.out.trans (Kept.of_below hb2))
                have HT2 := Lib.hid (HTK.out.on hb2 zT)
                have zT2 : t9 < w2.heap.size := Nat.lt_of_lt_of_le zT hb2.size
                have u0 := HT2.out.c0
                have u1 := HT2.out.c1
                have q3 := HI2.out.f.s3
                have zS2 := HI2.out.f.zS
                have zp2 := HI2.out.f.zp
                have fp2 := HI2.out.f.fp
                have nT : ¬ (L.pl = t9) := NT.out.2.1
                have nS : ¬ (L.pl = L.S) := HI2.out.n.pS
                have g0 := HI2.out.v.p00
                have g1 := HI2.out.v.p01
                have g2 := HI2.out.v.p02
                have g3 := HI2.out.v.p03
                clear hb2 HC s1 w1 zS zq t2
                go_wp2
                go_region
                have hSP3 := ((((HI2.out.set00 2).set01 1).set02 T).set03 (T + 10)).on (below_drew (Below.refl _ _)) (by simpa using HI2.out.lo)
                have hK3 := (((((Kept.refl L.own w2).set (p := ⟨L.pl, 0, none⟩) (.inr (.inl rfl)) (.int .i64 2)).set (p := ⟨L.pl, 1, none⟩) (.inr (.inl rfl)) (.int .i64 1)).set (p := ⟨L.pl, 2, none⟩) (.inr (.inl rfl)) (.int .i64 T)).set (p := ⟨L.pl, 3, none⟩) (.inr (.inl rfl)) (.int .i64 (T + 10))).trans (Kept.of_below (below_drew (Below.refl _ _)))
                have HK3 := Lib.hid (HK2.out.trans hK3)
                have hT3 := (((((HT2.out.set (i := 0) nT (.int .i64 2)).set (i := 1) nT (.int .i64 1)).set (i := 2) nT (.int .i64 T)).set (i := 3) nT (.int .i64 (T + 10))).on (below_drew (Below.refl _ _)) (by simpa using zT2))
                have hC4 := HCALL.out _ hSP3
                have HC4 := Lib.hid hC4
                have HT3 := Lib.hid hT3
                have zT3 : t9 < ((((w2.setCell ⟨L.pl, 0, none⟩ (.int .i64 2)).setCell ⟨L.pl, 1, none⟩ (.int .i64 1)).setCell ⟨L.pl, 2, none⟩ (.int .i64 T)).setCell ⟨L.pl, 3, none⟩ (.int .i64 (T + 10))).drew.heap.size := by simpa using zT2
                have ZT3 := Lib.hid zT3
                clear hSP3 hK3 hT3 hC4 zT3
                go_wp2_with fail
                refine HC4.out.mono ?_
                rintro e w4 ⟨rfl, hSP4, hK4⟩
                have hT4 := HT3.out.kept hK4 ZT3.out NT.out
                have zT4 : t9 < w4.heap.size := Nat.lt_of_lt_of_le ZT3.out hK4.size
                have HK4 := Lib.hid (HK3.out.trans hK4)
                have hfin := (((hSP4.set00 0).set01 0).set02 0).set03 0
                have hz0 : (St 2).p0 = Sh.zero := by rw [HP.out.1]; exact ZZ.out.1
                have hback : ({ St 2 with p0 := ⟨0, 0, 0, 0⟩ } : RP) = St 2 := rp_p0 hz0
                have hfin2 : SP L B w ((((w4.setCell ⟨L.pl, 0, none⟩ (.int .i64 0)).setCell ⟨L.pl, 1, none⟩ (.int .i64 0)).setCell ⟨L.pl, 2, none⟩ (.int .i64 0)).setCell ⟨L.pl, 3, none⟩ (.int .i64 0)) (St 2) := by rw [← hback]; exact hfin
                have HFIN := Lib.hid hfin2
                have HTF := Lib.hid ((((hT4.set (i := 0) nT (.int .i64 0)).set (i := 1) nT (.int .i64 0)).set (i := 2) nT (.int .i64 0)).set (i := 3) nT (.int .i64 0))
                have HKF := Lib.hid ((((HK4.out.set (p := ⟨L.pl, 0, none⟩) (.inr (.inl rfl)) (.int .i64 0)).set (p := ⟨L.pl, 1, none⟩) (.inr (.inl rfl)) (.int .i64 0)).set (p := ⟨L.pl, 2, none⟩) (.inr (.inl rfl)) (.int .i64 0)).set (p := ⟨L.pl, 3, none⟩) (.inr (.inl rfl)) (.int .i64 0))
                have v3 := hSP4.f.s3
                have y1 := hSP4.f.zS
                have y2 := hSP4.f.zp
                have fp4 := hSP4.f.fp
                have x0 := hSP4.v.p00
                have x1 := hSP4.v.p01
                have x2 := hSP4.v.p02
                have x3 := hSP4.v.p03
                clear hSP4 hK4 hT4 hfin hfin2 hback hz0 HC4 u0 u1 q3 zS2 zp2 fp2 g0 g1 g2 g3
                go_wp2
                go_roundw
                case rel => exact ⟨.inr (.inr ⟨by go_num, HFIN.out⟩), HTF.out, by simpa using zT4, HKF.out⟩
                case measure => simp [intOf]
          · skip
            go_wp2
            go_roundw
            case rel => exact ⟨.inr (.inl ⟨by go_num, HI.out⟩), HKI.out⟩
            case measure => simp [intOf]
      · have hn : (G != 0) = true := bne_iff_ne.2 hz
        have HEQ := Lib.hid (H0.out (by rw [← HG.out]; exact hz))
        clear hz
        go_wp2
        go_roundw
        case rel => exact ⟨.inr (.inl ⟨by go_num, by rw [HEQ.out]; exact HR.out.on (Joins.below_alloc1 _ _) HR.out.lo⟩), HK.out.trans (Kept.of_below (Joins.below_alloc1 _ _))⟩
        case measure => simp [intOf]
    · have HR := Lib.hid hR
      have s0 := hR.f.s0
      have s1 := hR.f.s1
      have s3 := hR.f.s3
      have zS := hR.f.zS
      have zb := hR.f.zb
      have zp := hR.f.zp
      obtain ⟨a0, a1, a2, a3, b0, b1, b2, b3⟩ := hR.f.tsk
      have g0 := hR.v.p10
      rw [HP.out.2] at g0
      obtain ⟨G, hG⟩ : ∃ G, G = p1.g := ⟨_, rfl⟩
      rw [← hG] at g0
      have HG := Lib.hid hG
      clear hR hG
      by_cases hz : G = 0
      · have ZZ := Lib.hid (Z1.out (by rw [← HG.out]; exact hz))
        have hn : (G != 0) = false := by rw [hz]; rfl
        have NT := Lib.hid (show L.S ≠ wr.heap.size ∧ L.pl ≠ wr.heap.size ∧ L.bs ≠ wr.heap.size from ⟨by have := HR.out.f.zS; omega, by have := HR.out.f.zp; omega, by have := HR.out.f.zs; omega⟩)
        clear hz
        rename World => wo
        go_wp2
        go_loopw [58] (fun j wi => ((j = .int .i64 0 ∧ SP L B w wi (St 2)) ∨ (j = .int .i64 1 ∧ SP L B w wi (St 3)) ∨ (j = .int .i64 2 ∧ SP L B w wi (St 4))) ∧ TaskAt wi wo.heap.size 2 20 ∧ wo.heap.size < wi.heap.size ∧ Kept L.own W wi) (fun j _ => 2 - (intOf j).toNat)
        case atStart => exact ⟨.inl ⟨rfl, HR.out.on (Joins.below_alloc1 _ _) HR.out.lo⟩, ⟨by simp [go_sem], by simp [go_sem], by simp [go_sem]⟩, by simp, HK.out.trans (Kept.of_below (Joins.below_alloc1 _ _))⟩
        case round =>
          obtain ⟨hj, hTK, zT, hKI⟩ := hrel
          have HTK := Lib.hid hTK
          have HKI := Lib.hid hKI
          clear s0 s1 s3 zS zb zp a0 a1 a2 a3 b0 b1 b2 b3 g0 hTK hKI hn
          generalize wo.heap.size = t9 at *
          rcases hj with ⟨rfl, hI⟩ | ⟨rfl, hI⟩ | ⟨rfl, hI⟩
          all_goals
            have HI := Lib.hid hI
            clear hI
          · skip
            have hstep := ZZ.out.2 0 (by omega)
            unfold StepOk at hstep
            obtain ⟨T, hT⟩ : ∃ T, T = eE p0 p1 (((0 : Nat) : Int) + 1) := ⟨_, rfl⟩
            rw [← hT] at hstep
            have hC := earliest_any L B w wr (St 2) 1 (((0 : Nat) : Int) + 1) (by omega) HI.out
            rw [HP.out.1, HP.out.2, ← hT] at hC
            have HC := Lib.hid hC
            have HT := Lib.hid hT
            have HSTEP := Lib.hid hstep
            have s1 := HI.out.f.s1
            have w0 := HI.out.f.w0
            have zS := HI.out.f.zS
            have zq := HI.out.f.zq
            have t2 := HTK.out.c2
            clear hC hT hstep
            by_cases hlt : T < from_
            · have HEQ := Lib.hid (HSTEP.out.1 hlt)
              go_wp2_with fail
              refine HC.out.mono ?_
              rintro e w2 ⟨rfl, hb2⟩
              have HI2 := Lib.hid (HI.out.on hb2 HI.out.lo)
              have HK2 := Lib.hid (HKI.out.trans (Kept.of_below hb2))
              have HT2 := Lib.hid (HTK.out.on hb2 zT)
              have zT2 : t9 < w2.heap.size := Nat.lt_of_lt_of_le zT hb2.size
              clear hb2 HC
              go_wp2
              go_roundw
              case rel => exact ⟨.inr (.inl ⟨by go_num, by rw [show 3 = 2 * 1 + 0 + 1 from rfl, HEQ.out]; exact HI2.out⟩), HT2.out, zT2, HK2.out⟩
              case measure => simp [intOf]
            · have hlt2 : decide (T < from_) = false := decide_eq_false hlt
              obtain ⟨⟨b1, b2⟩, hcall⟩ := HSTEP.out.2 (by omega)
              have hcall2 : ∀ W1, SP L B w W1 { St 2 with p1 := ⟨1, 2, T, T + 20⟩ } → Calls Try.prog 49 #[.pointer (some ⟨L.S, 0, none⟩), .int .i64 (left - 1), .int .i64 T, .int .i64 (max fin (T + 20))] W1 (PlacePost L B w W1 { St 3 with p1 := ⟨1, 2, T, T + 20⟩ }) := fun W1 h => hcall W1 h
              obtain ⟨M, hM⟩ : ∃ M, M = max fin (T + 20) := ⟨_, rfl⟩
              rw [← hM] at hcall2
              have hMc : (fin < T + 20 ∧ M = T + 20) ∨ (¬ fin < T + 20 ∧ M = fin) := by omega
              have HCALL := Lib.hid hcall2
              have e1 : IntKind.i64.wrap (T + 20) = T + 20 := IntWalk.i64_in _ (by omega)
              have e1' : wrap64 (T + 20) = T + 20 := by unfold wrap64; omega
              clear hcall hcall2 hlt hM
              rcases hMc with ⟨hm, hM⟩ | ⟨hm, hM⟩
              all_goals
                subst hM
                go_wp2_with fail
                refine HC.out.mono ?_
                rintro e w2 ⟨rfl, hb2⟩
                have HI2 := Lib.hid (HI.out.on hb2 HI.out.lo)
                have HK2 := Lib.hid (HKI.out.trans (Kept.of_below hb2))
                have HT2 := Lib.hid (HTK.out.on hb2 zT)
                have zT2 : t9 < w2.heap.size := Nat.lt_of_lt_of_le zT hb2.size
                have u0 := HT2.out.c0
                have u1 := HT2.out.c1
                have q3 := HI2.out.f.s3
                have zS2 := HI2.out.f.zS
                have zp2 := HI2.out.f.zp
                have fp2 := HI2.out.f.fp
                have nT : ¬ (L.pl = t9) := NT.out.2.1
                have nS : ¬ (L.pl = L.S) := HI2.out.n.pS
                have g0 := HI2.out.v.p10
                have g1 := HI2.out.v.p11
                have g2 := HI2.out.v.p12
                have g3 := HI2.out.v.p13
                clear hb2 HC s1 w0 zS zq t2
                go_wp2
                go_region
                have hSP3 := ((((HI2.out.set10 1).set11 2).set12 T).set13 (T + 20)).on (below_drew (Below.refl _ _)) (by simpa using HI2.out.lo)
                have hK3 := (((((Kept.refl L.own w2).set (p := ⟨L.pl, 4, none⟩) (.inr (.inl rfl)) (.int .i64 1)).set (p := ⟨L.pl, 5, none⟩) (.inr (.inl rfl)) (.int .i64 2)).set (p := ⟨L.pl, 6, none⟩) (.inr (.inl rfl)) (.int .i64 T)).set (p := ⟨L.pl, 7, none⟩) (.inr (.inl rfl)) (.int .i64 (T + 20))).trans (Kept.of_below (below_drew (Below.refl _ _)))
                have HK3 := Lib.hid (HK2.out.trans hK3)
                have hT3 := (((((HT2.out.set (i := 4) nT (.int .i64 1)).set (i := 5) nT (.int .i64 2)).set (i := 6) nT (.int .i64 T)).set (i := 7) nT (.int .i64 (T + 20))).on (below_drew (Below.refl _ _)) (by simpa using zT2))
                have hC4 := HCALL.out _ hSP3
                have HC4 := Lib.hid hC4
                have HT3 := Lib.hid hT3
                have zT3 : t9 < ((((w2.setCell ⟨L.pl, 4, none⟩ (.int .i64 1)).setCell ⟨L.pl, 5, none⟩ (.int .i64 2)).setCell ⟨L.pl, 6, none⟩ (.int .i64 T)).setCell ⟨L.pl, 7, none⟩ (.int .i64 (T + 20))).drew.heap.size := by simpa using zT2
                have ZT3 := Lib.hid zT3
                clear hSP3 hK3 hT3 hC4 zT3
                go_wp2_with fail
                refine HC4.out.mono ?_
                rintro e w4 ⟨rfl, hSP4, hK4⟩
                have hT4 := HT3.out.kept hK4 ZT3.out NT.out
                have zT4 : t9 < w4.heap.size := Nat.lt_of_lt_of_le ZT3.out hK4.size
                have HK4 := Lib.hid (HK3.out.trans hK4)
                have hfin := (((hSP4.set10 0).set11 0).set12 0).set13 0
                have hz0 : (St 3).p1 = Sh.zero := by rw [HP.out.2]; exact ZZ.out.1
                have hback : ({ St 3 with p1 := ⟨0, 0, 0, 0⟩ } : RP) = St 3 := rp_p1 hz0
                have hfin2 : SP L B w ((((w4.setCell ⟨L.pl, 4, none⟩ (.int .i64 0)).setCell ⟨L.pl, 5, none⟩ (.int .i64 0)).setCell ⟨L.pl, 6, none⟩ (.int .i64 0)).setCell ⟨L.pl, 7, none⟩ (.int .i64 0)) (St 3) := by rw [← hback]; exact hfin
                have HFIN := Lib.hid hfin2
                have HTF := Lib.hid ((((hT4.set (i := 4) nT (.int .i64 0)).set (i := 5) nT (.int .i64 0)).set (i := 6) nT (.int .i64 0)).set (i := 7) nT (.int .i64 0))
                have HKF := Lib.hid ((((HK4.out.set (p := ⟨L.pl, 4, none⟩) (.inr (.inl rfl)) (.int .i64 0)).set (p := ⟨L.pl, 5, none⟩) (.inr (.inl rfl)) (.int .i64 0)).set (p := ⟨L.pl, 6, none⟩) (.inr (.inl rfl)) (.int .i64 0)).set (p := ⟨L.pl, 7, none⟩) (.inr (.inl rfl)) (.int .i64 0))
                have v3 := hSP4.f.s3
                have y1 := hSP4.f.zS
                have y2 := hSP4.f.zp
                have fp4 := hSP4.f.fp
                have x0 := hSP4.v.p10
                have x1 := hSP4.v.p11
                have x2 := hSP4.v.p12
                have x3 := hSP4.v.p13
                clear hSP4 hK4 hT4 hfin hfin2 hback hz0 HC4 u0 u1 q3 zS2 zp2 fp2 g0 g1 g2 g3
                go_wp2
                go_roundw
                case rel => exact ⟨.inr (.inl ⟨by go_num, HFIN.out⟩), HTF.out, by simpa using zT4, HKF.out⟩
                case measure => simp [intOf]
          · skip
            have hstep := ZZ.out.2 1 (by omega)
            unfold StepOk at hstep
            obtain ⟨T, hT⟩ : ∃ T, T = eE p0 p1 (((1 : Nat) : Int) + 1) := ⟨_, rfl⟩
            rw [← hT] at hstep
            have hC := earliest_any L B w wr (St 3) 1 (((1 : Nat) : Int) + 1) (by omega) HI.out
            rw [HP.out.1, HP.out.2, ← hT] at hC
            have HC := Lib.hid hC
            have HT := Lib.hid hT
            have HSTEP := Lib.hid hstep
            have s1 := HI.out.f.s1
            have w1 := HI.out.f.w1
            have zS := HI.out.f.zS
            have zq := HI.out.f.zq
            have t2 := HTK.out.c2
            clear hC hT hstep
            by_cases hlt : T < from_
            · have HEQ := Lib.hid (HSTEP.out.1 hlt)
              go_wp2_with fail
              refine HC.out.mono ?_
              rintro e w2 ⟨rfl, hb2⟩
              have HI2 := Lib.hid (HI.out.on hb2 HI.out.lo)
              have HK2 := Lib.hid (HKI.out.trans (Kept.of_below hb2))
              have HT2 := Lib.hid (HTK.out.on hb2 zT)
              have zT2 : t9 < w2.heap.size := Nat.lt_of_lt_of_le zT hb2.size
              clear hb2 HC
              go_wp2
              go_roundw
              case rel => exact ⟨.inr (.inr ⟨by go_num, by rw [show 4 = 2 * 1 + 1 + 1 from rfl, HEQ.out]; exact HI2.out⟩), HT2.out, zT2, HK2.out⟩
              case measure => simp [intOf]
            · have hlt2 : decide (T < from_) = false := decide_eq_false hlt
              obtain ⟨⟨b1, b2⟩, hcall⟩ := HSTEP.out.2 (by omega)
              have hcall2 : ∀ W1, SP L B w W1 { St 3 with p1 := ⟨2, 2, T, T + 20⟩ } → Calls Try.prog 49 #[.pointer (some ⟨L.S, 0, none⟩), .int .i64 (left - 1), .int .i64 T, .int .i64 (max fin (T + 20))] W1 (PlacePost L B w W1 { St 4 with p1 := ⟨2, 2, T, T + 20⟩ }) := fun W1 h => hcall W1 h
              obtain ⟨M, hM⟩ : ∃ M, M = max fin (T + 20) := ⟨_, rfl⟩
              rw [← hM] at hcall2
              have hMc : (fin < T + 20 ∧ M = T + 20) ∨ (¬ fin < T + 20 ∧ M = fin) := by omega
              have HCALL := Lib.hid hcall2
              have e1 : IntKind.i64.wrap (T + 20) = T + 20 := IntWalk.i64_in _ (by omega)
              have e1' : wrap64 (T + 20) = T + 20 := by unfold wrap64; omega
              clear hcall hcall2 hlt hM
              rcases hMc with ⟨hm, hM⟩ | ⟨hm, hM⟩
              all_goals
                subst hM
                go_wp2_with fail
                refine HC.out.mono ?_
                rintro e w2 ⟨rfl, hb2⟩
                have HI2 := Lib.hid (HI.out.on hb2 HI.out.lo)
                have HK2 := Lib.hid (HKI.out.trans (Kept.of_below hb2))
                have HT2 := Lib.hid (HTK.out.on hb2 zT)
                have zT2 : t9 < w2.heap.size := Nat.lt_of_lt_of_le zT hb2.size
                have u0 := HT2.out.c0
                have u1 := HT2.out.c1
                have q3 := HI2.out.f.s3
                have zS2 := HI2.out.f.zS
                have zp2 := HI2.out.f.zp
                have fp2 := HI2.out.f.fp
                have nT : ¬ (L.pl = t9) := NT.out.2.1
                have nS : ¬ (L.pl = L.S) := HI2.out.n.pS
                have g0 := HI2.out.v.p10
                have g1 := HI2.out.v.p11
                have g2 := HI2.out.v.p12
                have g3 := HI2.out.v.p13
                clear hb2 HC s1 w1 zS zq t2
                go_wp2
                go_region
                have hSP3 := ((((HI2.out.set10 2).set11 2).set12 T).set13 (T + 20)).on (below_drew (Below.refl _ _)) (by simpa using HI2.out.lo)
                have hK3 := (((((Kept.refl L.own w2).set (p := ⟨L.pl, 4, none⟩) (.inr (.inl rfl)) (.int .i64 2)).set (p := ⟨L.pl, 5, none⟩) (.inr (.inl rfl)) (.int .i64 2)).set (p := ⟨L.pl, 6, none⟩) (.inr (.inl rfl)) (.int .i64 T)).set (p := ⟨L.pl, 7, none⟩) (.inr (.inl rfl)) (.int .i64 (T + 20))).trans (Kept.of_below (below_drew (Below.refl _ _)))
                have HK3 := Lib.hid (HK2.out.trans hK3)
                have hT3 := (((((HT2.out.set (i := 4) nT (.int .i64 2)).set (i := 5) nT (.int .i64 2)).set (i := 6) nT (.int .i64 T)).set (i := 7) nT (.int .i64 (T + 20))).on (below_drew (Below.refl _ _)) (by simpa using zT2))
                have hC4 := HCALL.out _ hSP3
                have HC4 := Lib.hid hC4
                have HT3 := Lib.hid hT3
                have zT3 : t9 < ((((w2.setCell ⟨L.pl, 4, none⟩ (.int .i64 2)).setCell ⟨L.pl, 5, none⟩ (.int .i64 2)).setCell ⟨L.pl, 6, none⟩ (.int .i64 T)).setCell ⟨L.pl, 7, none⟩ (.int .i64 (T + 20))).drew.heap.size := by simpa using zT2
                have ZT3 := Lib.hid zT3
                clear hSP3 hK3 hT3 hC4 zT3
                go_wp2_with fail
                refine HC4.out.mono ?_
                rintro e w4 ⟨rfl, hSP4, hK4⟩
                have hT4 := HT3.out.kept hK4 ZT3.out NT.out
                have zT4 : t9 < w4.heap.size := Nat.lt_of_lt_of_le ZT3.out hK4.size
                have HK4 := Lib.hid (HK3.out.trans hK4)
                have hfin := (((hSP4.set10 0).set11 0).set12 0).set13 0
                have hz0 : (St 4).p1 = Sh.zero := by rw [HP.out.2]; exact ZZ.out.1
                have hback : ({ St 4 with p1 := ⟨0, 0, 0, 0⟩ } : RP) = St 4 := rp_p1 hz0
                have hfin2 : SP L B w ((((w4.setCell ⟨L.pl, 4, none⟩ (.int .i64 0)).setCell ⟨L.pl, 5, none⟩ (.int .i64 0)).setCell ⟨L.pl, 6, none⟩ (.int .i64 0)).setCell ⟨L.pl, 7, none⟩ (.int .i64 0)) (St 4) := by rw [← hback]; exact hfin
                have HFIN := Lib.hid hfin2
                have HTF := Lib.hid ((((hT4.set (i := 4) nT (.int .i64 0)).set (i := 5) nT (.int .i64 0)).set (i := 6) nT (.int .i64 0)).set (i := 7) nT (.int .i64 0))
                have HKF := Lib.hid ((((HK4.out.set (p := ⟨L.pl, 4, none⟩) (.inr (.inl rfl)) (.int .i64 0)).set (p := ⟨L.pl, 5, none⟩) (.inr (.inl rfl)) (.int .i64 0)).set (p := ⟨L.pl, 6, none⟩) (.inr (.inl rfl)) (.int .i64 0)).set (p := ⟨L.pl, 7, none⟩) (.inr (.inl rfl)) (.int .i64 0))
                have v3 := hSP4.f.s3
                have y1 := hSP4.f.zS
                have y2 := hSP4.f.zp
                have fp4 := hSP4.f.fp
                have x0 := hSP4.v.p10
                have x1 := hSP4.v.p11
                have x2 := hSP4.v.p12
                have x3 := hSP4.v.p13
                clear hSP4 hK4 hT4 hfin hfin2 hback hz0 HC4 u0 u1 q3 zS2 zp2 fp2 g0 g1 g2 g3
                go_wp2
                go_roundw
                case rel => exact ⟨.inr (.inr ⟨by go_num, HFIN.out⟩), HTF.out, by simpa using zT4, HKF.out⟩
                case measure => simp [intOf]
          · skip
            go_wp2
            go_roundw
            case rel => exact ⟨.inr (.inr ⟨by go_num, HI.out⟩), HKI.out⟩
            case measure => simp [intOf]
      · have hn : (G != 0) = true := bne_iff_ne.2 hz
        have HEQ := Lib.hid (H1.out (by rw [← HG.out]; exact hz))
        clear hz
        go_wp2
        go_roundw
        case rel => exact ⟨.inr (.inr ⟨by go_num, by rw [HEQ.out]; exact HR.out.on (Joins.below_alloc1 _ _) HR.out.lo⟩), HK.out.trans (Kept.of_below (Joins.below_alloc1 _ _))⟩
        case measure => simp [intOf]
    · have HR := Lib.hid hR
      clear hR
      go_wp2
      exact bodyPost_end (results_none rfl _ _ _) rfl ⟨rfl, HR.out, HK.out⟩
end Go.Proofs.Ytljhocdbfbjpiaa
