/-
  The litres that the guns use, by their runs, and altogether.
-/
import Derived.Test.YtljhocdbfbjpiaaWtPower
import Derived.Maps.OwnOps
import Derived.Maps.Views
import Derived.Carry
namespace Go.Proofs.Ytljhocdbfbjpiaa
open Go.RowKit Go.Maps

theorem mapLaw : Keyed Try.prog 3 := int_keyed Try.underlying3
theorem intZero (w : World) : (zeroValue 3).run Try.prog w = .ok (.int .i64 0) w := by kernel_rfl
/-- A map of ints to ints that the call made. -/
def MapI (w : World) (b n : Nat) (M : Int → Int) : Prop :=
  ∃ D : DataW Unit, w.ownsMap Try.prog 3 (plainElem Try.prog 3) b n D ∧ IsMap D ∧ ∀ x : Int, D.atKey (.int .i64 x) (.lit (.int .i64 0)) = .lit (.int .i64 (M x))
theorem MapI.made (w : World) : MapI (w.alloc (.map #[] 0)) w.heap.size 0 (fun _ => 0) :=
  ⟨_, World.ownsMap_made _ _ _ _, isMap_empty, fun _ => rfl⟩
theorem MapI.lt {w : World} {b n : Nat} {M : Int → Int} (h : MapI w b n M) : b < w.heap.size := by
  obtain ⟨D, h, _⟩ := h
  exact h.lt
theorem MapI.below {w w' : World} {b n : Nat} {M : Int → Int} (h : MapI w b n M) (hb : Below w.heap.size w w') : MapI w' b n M := by
  obtain ⟨D, ho, h1, h2⟩ := h
  have hlt := ho.lt
  obtain ⟨es, clock, hh, F, hs, hD⟩ := ho
  exact ⟨D, ⟨es, clock, (hb.block b hlt).trans hh, F, hs, hD⟩, h1, h2⟩
theorem MapI.put {D : DataW Unit} {M : Int → Int} {y z : Int} (hm : IsMap D) (h : ∀ x : Int, D.atKey (.int .i64 x) (.lit (.int .i64 0)) = .lit (.int .i64 (M x))) :
    ∀ x : Int, (D.put (.int .i64 y) (.lit (.int .i64 z))).atKey (.int .i64 x) (.lit (.int .i64 0)) = .lit (.int .i64 (if x = y then z else M x)) := by
  intro x
  by_cases e : x = y
  · subst e
    rw [atKey_put_same (k := .int .i64 x) hm trivial]
    simp
  · rw [atKey_put_other (k := .int .i64 y) (k' := .int .i64 x) (by intro e'; cases e'; exact e rfl), h x]
    simp [e]
theorem lit_inj {a b : Int} (h : (DataW.lit (.int .i64 a) : DataW Unit) = .lit (.int .i64 b)) : a = b := by
  injection h with h
  injection h

theorem BoxAt.grown {w w' : World} {s : Nat} {v0 v1 v2 v3 v4 v5 : Value} {p l t wa lo en inn : Int} (h : BoxAt w s v0 v1 v2 v3 v4 v5 p l t wa lo en inn) {row : Option Nat} (hg : w.grownBy w' row) (hne : some s ≠ row) : BoxAt w' s v0 v1 v2 v3 v4 v5 p l t wa lo en inn :=
  ⟨Nat.lt_of_lt_of_le h.z hg.size, (hg.cell_far ⟨s, 0, none⟩ h.z hne).trans h.c0, (hg.cell_far ⟨s, 1, none⟩ h.z hne).trans h.c1, (hg.cell_far ⟨s, 2, none⟩ h.z hne).trans h.c2, (hg.cell_far ⟨s, 3, none⟩ h.z hne).trans h.c3, (hg.cell_far ⟨s, 4, none⟩ h.z hne).trans h.c4, (hg.cell_far ⟨s, 5, none⟩ h.z hne).trans h.c5, (hg.cell_far ⟨s, 6, none⟩ h.z hne).trans h.c6, (hg.cell_far ⟨s, 7, none⟩ h.z hne).trans h.c7, (hg.cell_far ⟨s, 8, none⟩ h.z hne).trans h.c8, (hg.cell_far ⟨s, 9, none⟩ h.z hne).trans h.c9, (hg.cell_far ⟨s, 10, none⟩ h.z hne).trans h.c10, (hg.cell_far ⟨s, 11, none⟩ h.z hne).trans h.c11, (hg.cell_far ⟨s, 12, none⟩ h.z hne).trans h.c12, fun k => (hg.frozen_far ⟨s, k, none⟩ h.z hne).trans (h.f k)⟩
def vS (S : Sys) (wet sec : Int) (i : Nat) : Int := if S.fg i 4 = 1 then outV (kPs S.K (kFirst S.K (S.fg i 3) S.nk)) wet * sec / 60 else 0
def runS (S : Sys) (wet sec : Int) (x : Int) (n : Nat) : Int := sumN (fun i => if S.fg i 2 = x then vS S wet sec i else 0) n
theorem vol_bd {o sec : Int} (h0 : 0 ≤ o) (h1 : o ≤ 10000) (s0 : 0 ≤ sec) (s1 : sec ≤ 3600) : (0 ≤ o * sec ∧ o * sec ≤ 36000000) ∧ 0 ≤ o * sec / 60 ∧ o * sec / 60 ≤ 600000 := by
  have e1 : 0 ≤ o * sec := Int.mul_nonneg h0 s0
  have e2 : o * sec ≤ 10000 * 3600 := Int.mul_le_mul h1 s1 s0 (by omega)
  omega
theorem vS_bd {S : Sys} (hR : SysR S) {wet sec : Int} (s0 : 0 ≤ sec) (s1 : sec ≤ 3600) (i : Nat) : 0 ≤ vS S wet sec i ∧ vS S wet sec i ≤ 600000 := by
  unfold vS
  split
  · exact (vol_bd (hR.out _ _).1 (hR.out _ _).2 s0 s1).2
  · omega
theorem runS_bd {S : Sys} (hR : SysR S) {wet sec : Int} (s0 : 0 ≤ sec) (s1 : sec ≤ 3600) (x : Int) (n : Nat) : 0 ≤ runS S wet sec x n ∧ runS S wet sec x n ≤ (n : Int) * 600000 := by
  have := sumN_bd (f := fun i => if S.fg i 2 = x then vS S wet sec i else 0) (n := n) (lo := 0) (hi := 600000) fun i _ => by
    have := vS_bd hR (wet := wet) s0 s1 i
    split <;> omega
  unfold runS
  simpa using this
def UsedPost (S : Sys) (wet sec : Int) (w : World) (e : Ending) (w' : World) : Prop :=
  (∃ b m, e = .returned (.tuple #[.map (some b), .int .i64 (sumN (vS S wet sec) S.ng)]) ∧ MapI w' b m (fun x => runS S wet sec x S.ng)) ∧ Below w.heap.size w w'
set_option maxRecDepth 40000 in
set_option maxHeartbeats 8000000 in
theorem used_any (S : Sys) (wet sec : Int) (w : World) (hM : SysM w S) (hZ : SysZ S) (hR : SysR S) (s0 : 0 ≤ sec) (s1 : sec ≤ 3600) :
    Calls Try.prog 34 #[sysS S, .int .i64 wet, .int .i64 sec] w (UsedPost S wet sec w) := by
  have HGU := Lib.hid hM.gu
  have HKI := Lib.hid hM.ki
  have HZ := Lib.hid hZ
  have HSR := Lib.hid hR
  have hn8 : (S.ng : Int) ≤ 8 := by have := hZ.ng; omega
  have hmm := @run_makeMap Try.prog
  have hb0 : Below w.heap.size w (w.alloc (.cells #[.slice S.po S.np S.cp, .slice S.pu S.nu S.cu, .slice S.pi S.ni S.ci, .slice S.ki S.nk S.ck, .slice S.gu S.ng S.cg, .slice S.pa S.na S.ca, .int .i64 S.p, .int .i64 S.l, .int .i64 S.t, .int .i64 S.wa, .int .i64 S.lo, .int .i64 S.en, .int .i64 S.inn] 41)) := Joins.below_alloc1 _ _
  have hx0 := (BoxAt.mk0 w (.slice S.po S.np S.cp) (.slice S.pu S.nu S.cu) (.slice S.pi S.ni S.ci) (.slice S.ki S.nk S.ck) (.slice S.gu S.ng S.cg) (.slice S.pa S.na S.ca) S.p S.l S.t S.wa S.lo S.en S.inn).below (Joins.below_alloc1 _ (.map #[] 0))
  have HX0 := Lib.hid hx0
  have HB0 := Lib.hid (hb0.alloc (by simp) (.map #[] 0))
  have hmp := MapI.made (w.alloc (.cells #[.slice S.po S.np S.cp, .slice S.pu S.nu S.cu, .slice S.pi S.ni S.ci, .slice S.ki S.nk S.ck, .slice S.gu S.ng S.cg, .slice S.pa S.na S.ca, .int .i64 S.p, .int .i64 S.l, .int .i64 S.t, .int .i64 S.wa, .int .i64 S.lo, .int .i64 S.en, .int .i64 S.inn] 41))
  have hmp' : MapI ((w.alloc (.cells #[.slice S.po S.np S.cp, .slice S.pu S.nu S.cu, .slice S.pi S.ni S.ci, .slice S.ki S.nk S.ck, .slice S.gu S.ng S.cg, .slice S.pa S.na S.ca, .int .i64 S.p, .int .i64 S.l, .int .i64 S.t, .int .i64 S.wa, .int .i64 S.lo, .int .i64 S.en, .int .i64 S.inn] 41)).alloc (.map #[] 0)) (w.heap.size + 1) 0 (fun _ => 0) := by simpa using hmp
  have HMP := Lib.hid hmp'
  have b4 := hx0.c4
  show Calls Try.prog 34 #[sysV (.slice S.po S.np S.cp) (.slice S.pu S.nu S.cu) (.slice S.pi S.ni S.ci) (.slice S.ki S.nk S.ck) (.slice S.gu S.ng S.cg) (.slice S.pa S.na S.ca) S.p S.l S.t S.wa S.lo S.en S.inn, .int .i64 wet, .int .i64 sec] w (UsedPost S wet sec w)
  clear hM hZ hR hb0 hx0 hmp hmp'
  generalize S.gu = gu at *
  go_enter Try.func34, Try.ntmps34
  go_wp2
  clear b4
  go_loopw [9, 19] (fun t i wr => ∃ k m : Nat, k ≤ S.ng ∧ i = .int .i64 k ∧ t = .int .i64 (sumN (vS S wet sec) k) ∧ m ≤ k ∧ Hid (BoxAt wr w.heap.size (.slice S.po S.np S.cp) (.slice S.pu S.nu S.cu) (.slice S.pi S.ni S.ci) (.slice S.ki S.nk S.ck) (.slice gu S.ng S.cg) (.slice S.pa S.na S.ca) S.p S.l S.t S.wa S.lo S.en S.inn) ∧ Hid (MapI wr (w.heap.size + 1) m (fun x => runS S wet sec x k)) ∧ Hid (Below w.heap.size w wr)) (fun _ i _ => S.ng - (intOf i).toNat)
  case atStart => exact ⟨0, 0, Nat.zero_le _, rfl, rfl, Nat.le_refl _, HX0, HMP, HB0⟩
  case round =>
    clear HX0 HMP HB0 hmm
    rename World => wo
    obtain ⟨k, m, hk, rfl, rfl, hmk, HX, HMP, HB⟩ := hrel
    by_cases hlt : k < S.ng
    · have hlti : (k : Int) < (S.ng : Int) := by omega
      obtain ⟨b, off, rfl, hbz, hc⟩ := (HGU.out.below HB.out).at_ hlt
      have c0 := hc 0 (by omega)
      have c1 := hc 1 (by omega)
      have c2 := hc 2 (by omega)
      have c3 := hc 3 (by omega)
      have c4 := hc 4 (by omega)
      have c5 := hc 5 (by omega)
      have c6 := hc 6 (by omega)
      have c7 := hc 7 (by omega)
      rw [Nat.add_zero] at c0
      have hb1 : Below wo.heap.size wo (wo.alloc (.cells #[.int .i64 (S.fg k 0), .int .i64 (S.fg k 1), .int .i64 (S.fg k 2), .int .i64 (S.fg k 3), .int .i64 (S.fg k 4), .int .i64 (S.fg k 5), .int .i64 (S.fg k 6), .int .i64 (S.fg k 7)] 51)) := Joins.below_alloc1 _ _
      have hb2 := hb1.alloc hb1.size (.cells #[.int .i64 (S.fg k 0), .int .i64 (S.fg k 1), .int .i64 (S.fg k 2), .int .i64 (S.fg k 3), .int .i64 (S.fg k 4), .int .i64 (S.fg k 5), .int .i64 (S.fg k 6), .int .i64 (S.fg k 7)] 51)
      have hri : RI ((wo.alloc (.cells #[.int .i64 (S.fg k 0), .int .i64 (S.fg k 1), .int .i64 (S.fg k 2), .int .i64 (S.fg k 3), .int .i64 (S.fg k 4), .int .i64 (S.fg k 5), .int .i64 (S.fg k 6), .int .i64 (S.fg k 7)] 51)).alloc (.cells #[.int .i64 (S.fg k 0), .int .i64 (S.fg k 1), .int .i64 (S.fg k 2), .int .i64 (S.fg k 3), .int .i64 (S.fg k 4), .int .i64 (S.fg k 5), .int .i64 (S.fg k 6), .int .i64 (S.fg k 7)] 51)) (some ⟨wo.heap.size + 1, 0, none⟩) 8 1 (fun _ j => S.fg k j) := fun _ => ⟨wo.heap.size + 1, 0, rfl, by simp, fun i hi j hj => by
        obtain rfl : i = 0 := by omega
        rcases (by omega : j = 0 ∨ j = 1 ∨ j = 2 ∨ j = 3 ∨ j = 4 ∨ j = 5 ∨ j = 6 ∨ j = 7) with rfl | rfl | rfl | rfl | rfl | rfl | rfl | rfl
        all_goals simp [go_sem]⟩
      have HDR := Lib.hid (draws_any S.nk 1 S.ck 1 S.K (fun _ j => S.fg k j) wet S.ki (some ⟨wo.heap.size + 1, 0, none⟩) _ ((HKI.out.below HB.out).below hb2) hri (by have := HZ.out.nk; omega) (by omega))
      have HX2 := Lib.hid (HX.out.below hb2)
      have HM2 := Lib.hid (HMP.out.below hb2)
      have HB2 := Lib.hid (thru HB.out hb2 HB.out.size)
      have q2 : ((wo.alloc (.cells #[.int .i64 (S.fg k 0), .int .i64 (S.fg k 1), .int .i64 (S.fg k 2), .int .i64 (S.fg k 3), .int .i64 (S.fg k 4), .int .i64 (S.fg k 5), .int .i64 (S.fg k 6), .int .i64 (S.fg k 7)] 51)).alloc (.cells #[.int .i64 (S.fg k 0), .int .i64 (S.fg k 1), .int .i64 (S.fg k 2), .int .i64 (S.fg k 3), .int .i64 (S.fg k 4), .int .i64 (S.fg k 5), .int .i64 (S.fg k 6), .int .i64 (S.fg k 7)] 51)).cell? ⟨wo.heap.size, 2, none⟩ = some (.int .i64 (S.fg k 2)) := by
        rw [(Joins.below_alloc1 _ _).cell (p := ⟨wo.heap.size, 2, none⟩) (by simp)]
        simp [go_sem]
      have HQ2 := Lib.hid q2
      have b3 := HX.out.c3
      have bz := HX.out.z
      have HLT := Lib.hid hlt
      have HVB := Lib.hid (vS_bd HSR.out (wet := wet) s0 s1 k)
      have HRB := Lib.hid (runS_bd HSR.out (wet := wet) s0 s1 (S.fg k 2) k)
      have HGR := Lib.hid (HSR.out.gr k hlt)
      have hsum := sumN_bd (f := vS S wet sec) (n := k) (lo := 0) (hi := 600000) fun i _ => vS_bd HSR.out s0 s1 i
      obtain ⟨T, hT⟩ : ∃ T, T = sumN (vS S wet sec) k := ⟨_, rfl⟩
      rw [← hT] at hsum ⊢
      have HT := Lib.hid hT
      have hT0 : 0 ≤ T := by omega
      have hT1 : T ≤ 4800000 := by omega
      clear hc hb1 hb2 hri hlt hT hsum q2 HX HMP hbz
      by_cases hon : S.fg k 4 = 1
      · obtain ⟨O, hO⟩ : ∃ O, O = outV (kPs S.K (kFirst S.K (S.fg k 3) S.nk)) wet := ⟨_, rfl⟩
        have e1 : drL S.K S.nk (fun _ j => S.fg k j) wet 1 = [(S.fg k 1, O)] := by simp [drL, hon, hO]
        have hv : vS S wet sec k = O * sec / 60 := by simp [vS, hon, hO]
        have hob := HSR.out.out (S.fg k 3) wet
        rw [← hO] at hob
        obtain ⟨⟨p0, p1⟩, v0, v1⟩ := vol_bd hob.1 hob.2 s0 s1
        rw [e1] at HDR
        have HV : Hid (vS S wet sec k = O * sec / 60) := Lib.hid hv
        obtain ⟨z2, hz2⟩ : ∃ z, z = S.fg k 2 := ⟨_, rfl⟩
        have HZ2 := Lib.hid hz2
        have hwf : (Lit.int .i64 z2).wf = true := WalkArith.wf_i64 (by have := HGR.out; omega)
        have hrb := HRB.out
        rw [← hz2] at hrb
        obtain ⟨Mr, hMr⟩ : ∃ Mr, Mr = runS S wet sec z2 k := ⟨_, rfl⟩
        rw [← hMr] at hrb
        have hr0 := hrb.1
        have hr1 : Mr ≤ 4800000 := by omega
        have hwf2 : (Lit.int .i64 (Mr + O * sec / 60)).wf = true := WalkArith.wf_i64 (by omega)
        have HMR := Lib.hid hMr
        clear e1 hv hon hO hob hz2 hrb hMr
        go_wp2_with fail
        refine HDR.out.mono ?_
        rintro e w2 ⟨⟨D, c, rfl, hD⟩, hb3⟩
        have HX3 := Lib.hid (HX2.out.below hb3)
        have HM3 := Lib.hid (HM2.out.below hb3)
        have HB3 := Lib.hid (thru HB2.out hb3 HB2.out.size)
        have hq : w2.cell? ⟨wo.heap.size, 2, none⟩ = some (.int .i64 z2) := (hb3.cell (p := ⟨wo.heap.size, 2, none⟩) (by simp; omega)).trans (HQ2.out.trans (by rw [HZ2.out]))
        obtain ⟨bd, offd, rfl, hbd, hcd⟩ := hD (by simp)
        obtain ⟨d0, d1⟩ := hcd 0 (by simp)
        simp only [Nat.zero_mul, Nat.add_zero, Fix.px_zero, Fix.py_zero] at d0 d1
        have HQ := Lib.hid hq
        have HQZ : Hid (wo.heap.size < w2.heap.size) := Lib.hid (by have := hb3.size; simp at this; omega)
        have HD0 := Lib.hid (And.intro d0 d1)
        clear hb3 HDR c0 c1 c2 c3 c4 c5 c6 c7 b3 bz HX2 HM2 HB2 hD hcd hq d0 d1 HQ2
        go_wp2
        go_loopw [9, 30] (fun t i wx => (t = .int .i64 T ∧ i = .int .i64 0 ∧ wx = w2) ∨ (t = .int .i64 (T + O * sec / 60) ∧ i = .int .i64 1 ∧ Hid (BoxAt wx w.heap.size (.slice S.po S.np S.cp) (.slice S.pu S.nu S.cu) (.slice S.pi S.ni S.ci) (.slice S.ki S.nk S.ck) (.slice (some ⟨b, off, none⟩) S.ng S.cg) (.slice S.pa S.na S.ca) S.p S.l S.t S.wa S.lo S.en S.inn) ∧ Hid (MapI wx (w.heap.size + 1) (m + 1) (fun x => if x = z2 then Mr + O * sec / 60 else runS S wet sec x k)) ∧ Hid (Below w.heap.size w wx))) (fun _ i _ => (1 - intOf i).toNat)
        case atStart => exact .inl ⟨rfl, rfl, rfl⟩
        case round =>
          rcases hrel with ⟨rfl, rfl, rfl⟩ | ⟨rfl, rfl, HX4, HM4, HB4⟩
          · obtain ⟨d0, d1⟩ := HD0.out
            have hq := HQ.out
            have hbz := HM3.out.lt
            obtain ⟨Dm, hown, hism, hat0⟩ := HM3.out
            have HIS := Lib.hid hism
            have HAT := Lib.hid hat0
            have HOWN := Lib.hid hown
            have hwq := HQZ.out
            clear hown hism hat0 hbz
            go_wp2_with (first
              | (at_lookup; refine wpList_lookup_own_int _ rfl _ _ 104 rfl 3 3 .i64 mapLaw Try.underlying104 Try.underlying3 (intZero _) (w.heap.size + 1) m Dm rfl (HOWN.out.alloc _) _ _ rfl (keyOf_int_mk Try.underlying3 hwf) ?_; intro c hat hwc; obtain rfl : Mr = c := (lit_inj (hat.symm.trans ((HAT.out z2).trans (by rw [HMR.out])))).symm)
              | (at_mapUpdate; refine wpList_mapUpdate_own _ rfl _ _ _ 104 rfl 3 3 mapLaw Try.underlying104 _ (w.heap.size + 1) m Dm rfl (HOWN.out.alloc _) (by have := HLT.out; have := HZ.out.ng; unfold maxLen; omega) _ _ _ rfl rfl (keyOf_int_mk Try.underlying3 hwf) _ [] (plainElem_int Try.underlying3 hwf2) ?_; intro w5 hown5 hgrow5))
            have HX5 := Lib.hid ((HX3.out.below (Joins.below_alloc1 _ _)).grown hgrow5 (by simp))
            have HM5 : Hid (MapI w5 (w.heap.size + 1) (m + 1) (fun x => if x = z2 then Mr + O * sec / 60 else runS S wet sec x k)) := Lib.hid ⟨_, hown5, HIS.out.put _ _, MapI.put HIS.out HAT.out⟩
            have HB5 : Hid (Below w.heap.size w w5) := Lib.hid ((HB3.out.alloc HB3.out.size _).grown hgrow5 (by have := HB3.out.size; simp; omega) (fun j hj => by cases hj; omega))
            clear hown5 hgrow5
            go_roundw
            case rel => exact .inr ⟨rfl, rfl, HX5, HM5, HB5⟩
            case measure => simp [intOf]
          · have HTT : Hid (T + O * sec / 60 = sumN (vS S wet sec) (k + 1)) := Lib.hid (by rw [sumN, HV.out, HT.out])
            have HMM : Hid (MapI wr (w.heap.size + 1) (m + 1) (fun x => runS S wet sec x (k + 1))) := Lib.hid (by
              have e : (fun x => runS S wet sec x (k + 1)) = (fun x => if x = z2 then Mr + O * sec / 60 else runS S wet sec x k) := funext fun x => by
                show runS S wet sec x k + (if S.fg k 2 = x then vS S wet sec k else 0) = _
                rw [HV.out, ← HZ2.out]
                by_cases e : x = z2
                · subst e
                  simp [HMR.out]
                · have e2 : ¬ z2 = x := fun h => e h.symm
                  simp [e, e2]
              rw [e]
              exact HM4.out)
            clear HM4
            go_wp2
            go_roundw
            case rel => exact ⟨k + 1, m + 1, HLT.out, by go_num, by rw [HTT.out], by omega, HX4, HMM, HB4⟩
            case measure => have := HLT.out; simp [intOf]; omega
      · have e1 : drL S.K S.nk (fun _ j => S.fg k j) wet 1 = [] := by simp [drL, hon]
        have hv : vS S wet sec k = 0 := by simp [vS, hon]
        rw [e1] at HDR
        have HV := Lib.hid hv
        clear e1 hv hon
        go_wp2_with fail
        refine HDR.out.mono ?_
        rintro e w2 ⟨⟨D, c, rfl, -⟩, hb3⟩
        have HX3 := Lib.hid (HX2.out.below hb3)
        have HM3 := Lib.hid (HM2.out.below hb3)
        have HB3 := Lib.hid (thru HB2.out hb3 HB2.out.size)
        clear hb3 HDR c0 c1 c2 c3 c4 c5 c6 c7 b3 bz HX2 HM2 HB2
        go_wp2
        go_loopw [9, 30] (fun t i wx => t = .int .i64 T ∧ i = .int .i64 0 ∧ wx = w2) (fun _ _ _ => 0)
        case atStart => exact ⟨rfl, rfl, rfl⟩
        case round =>
          obtain ⟨rfl, rfl, rfl⟩ := hrel
          go_wp2
          go_roundw
          case rel =>
            refine ⟨k + 1, m, HLT.out, by go_num, ?_, by omega, HX3, ?_, HB3⟩
            · rw [sumN, HV.out, ← HT.out, Int.add_zero]
            · have e : (fun x => runS S wet sec x (k + 1)) = (fun x => runS S wet sec x k) := funext fun x => by
                show runS S wet sec x k + (if S.fg k 2 = x then vS S wet sec k else 0) = _
                rw [HV.out]
                simp
              rw [e]
              exact HM3
          case measure => have := HLT.out; simp [intOf]; omega
    · have hlti : decide ((k : Int) < (S.ng : Int)) = false := decide_eq_false (by omega)
      have hke : k = S.ng := by omega
      have HF : Hid (sumN (vS S wet sec) k = sumN (vS S wet sec) S.ng ∧ MapI wo (w.heap.size + 1) m (fun x => runS S wet sec x S.ng)) := Lib.hid (by rw [hke] at HMP ⊢; exact ⟨rfl, HMP.out⟩)
      clear hke
      go_wp2
      go_ret2
      exact ⟨⟨w.heap.size + 1, m, congrArg (fun z => Ending.returned (.tuple #[.map (some (w.heap.size + 1)), .int .i64 z])) HF.out.1, HF.out.2⟩, HB.out⟩
end Go.Proofs.Ytljhocdbfbjpiaa
