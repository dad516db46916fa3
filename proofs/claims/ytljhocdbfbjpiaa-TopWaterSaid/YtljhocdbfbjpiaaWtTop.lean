/-
  The walk of the statement on water.
-/
import Derived.Test.YtljhocdbfbjpiaaWtAlive
import Derived.Test.YtljhocdbfbjpiaaWtRRight
import Derived.Test.YtljhocdbfbjpiaaWtStepB
import Derived.Test.YtljhocdbfbjpiaaSnowFacts
namespace Go.Proofs.Ytljhocdbfbjpiaa
open Go.RowKit

/-- The sizes that the statement looks at. -/
structure Small (S : Sys) (ch : List Int) : Prop where
  ng : S.ng ≤ 8
  na : S.na ≤ 8
  nu : S.nu ≤ 8
  ni : S.ni ≤ 8
  nk : S.nk ≤ 8
  np : S.np ≤ 8
  ch : ch.length ≤ 20
def TrueB (w : World) (e : Ending) (w' : World) : Prop := e = .returned (.bool true) ∧ Below w.heap.size w w'
set_option maxRecDepth 100000 in
set_option maxHeartbeats 8000000 in
theorem topw_size (S : Sys) (wet sec : Int) (ch : List Int) (C : Option Addr) (cc : Nat) (w : World) (hs : ¬ Small S ch) :
    Calls Try.prog 4 #[sysS S, .int .i64 wet, .int .i64 sec, .slice C ch.length cc] w (TrueB w) := by
  have hb0 : Below w.heap.size w (w.alloc (.cells #[.slice S.po S.np S.cp, .slice S.pu S.nu S.cu, .slice S.pi S.ni S.ci, .slice S.ki S.nk S.ck, .slice S.gu S.ng S.cg, .slice S.pa S.na S.ca, .int .i64 S.p, .int .i64 S.l, .int .i64 S.t, .int .i64 S.wa, .int .i64 S.lo, .int .i64 S.en, .int .i64 S.inn] 41)) := Joins.below_alloc1 _ _
  have hx0 := BoxAt.mk0 w (.slice S.po S.np S.cp) (.slice S.pu S.nu S.cu) (.slice S.pi S.ni S.ci) (.slice S.ki S.nk S.ck) (.slice S.gu S.ng S.cg) (.slice S.pa S.na S.ca) S.p S.l S.t S.wa S.lo S.en S.inn
  have HC := Lib.hid (waterAlive_any (w.alloc (.cells #[.slice S.po S.np S.cp, .slice S.pu S.nu S.cu, .slice S.pi S.ni S.ci, .slice S.ki S.nk S.ck, .slice S.gu S.ng S.cg, .slice S.pa S.na S.ca, .int .i64 S.p, .int .i64 S.l, .int .i64 S.t, .int .i64 S.wa, .int .i64 S.lo, .int .i64 S.en, .int .i64 S.inn] 41)))
  have HX0 := Lib.hid hx0
  have HB0 := Lib.hid hb0
  have HS := Lib.hid hs
  clear hb0 hx0 hs
  by_cases h0 : 8 < S.ng
  · have k0 : (8 : Int) < (S.ng : Int) := by omega
    clear h0
    go_enter Try.func4, Try.ntmps4
    go_wp2_with fail
    refine HC.out.mono ?_
    rintro e w1 ⟨rfl, hb1⟩
    have HX1 := Lib.hid (HX0.out.below hb1)
    have HB1 := Lib.hid (thru HB0.out hb1 HB0.out.size)
    clear hb1 HX0 HB0 HC
    have b4 := HX1.out.c4
    go_wp2
    go_ret
    exact ⟨rfl, HB1.out⟩
  have k0 : decide ((8 : Int) < (S.ng : Int)) = false := decide_eq_false (by omega)
  by_cases h1 : 8 < S.na
  · have k1 : (8 : Int) < (S.na : Int) := by omega
    clear h1
    go_enter Try.func4, Try.ntmps4
    go_wp2_with fail
    refine HC.out.mono ?_
    rintro e w1 ⟨rfl, hb1⟩
    have HX1 := Lib.hid (HX0.out.below hb1)
    have HB1 := Lib.hid (thru HB0.out hb1 HB0.out.size)
    clear hb1 HX0 HB0 HC
    have b4 := HX1.out.c4
    have b5 := HX1.out.c5
    go_wp2
    go_ret
    exact ⟨rfl, HB1.out⟩
  have k1 : decide ((8 : Int) < (S.na : Int)) = false := decide_eq_false (by omega)
  by_cases h2 : 8 < S.nu
  · have k2 : (8 : Int) < (S.nu : Int) := by omega
    clear h2
    go_enter Try.func4, Try.ntmps4
    go_wp2_with fail
    refine HC.out.mono ?_
    rintro e w1 ⟨rfl, hb1⟩
    have HX1 := Lib.hid (HX0.out.below hb1)
    have HB1 := Lib.hid (thru HB0.out hb1 HB0.out.size)
    clear hb1 HX0 HB0 HC
    have b4 := HX1.out.c4
    have b5 := HX1.out.c5
    have b1 := HX1.out.c1
    go_wp2
    go_ret
    exact ⟨rfl, HB1.out⟩
  have k2 : decide ((8 : Int) < (S.nu : Int)) = false := decide_eq_false (by omega)
  by_cases h3 : 8 < S.ni
  · have k3 : (8 : Int) < (S.ni : Int) := by omega
    clear h3
    go_enter Try.func4, Try.ntmps4
    go_wp2_with fail
    refine HC.out.mono ?_
    rintro e w1 ⟨rfl, hb1⟩
    have HX1 := Lib.hid (HX0.out.below hb1)
    have HB1 := Lib.hid (thru HB0.out hb1 HB0.out.size)
    clear hb1 HX0 HB0 HC
    have b4 := HX1.out.c4
    have b5 := HX1.out.c5
    have b1 := HX1.out.c1
    have b2 := HX1.out.c2
    go_wp2
    go_ret
    exact ⟨rfl, HB1.out⟩
  have k3 : decide ((8 : Int) < (S.ni : Int)) = false := decide_eq_false (by omega)
  by_cases h4 : 8 < S.nk
  · have k4 : (8 : Int) < (S.nk : Int) := by omega
    clear h4
    go_enter Try.func4, Try.ntmps4
    go_wp2_with fail
    refine HC.out.mono ?_
    rintro e w1 ⟨rfl, hb1⟩
    have HX1 := Lib.hid (HX0.out.below hb1)
    have HB1 := Lib.hid (thru HB0.out hb1 HB0.out.size)
    clear hb1 HX0 HB0 HC
    have b4 := HX1.out.c4
    have b5 := HX1.out.c5
    have b1 := HX1.out.c1
    have b2 := HX1.out.c2
    have b3 := HX1.out.c3
    go_wp2
    go_ret
    exact ⟨rfl, HB1.out⟩
  have k4 : decide ((8 : Int) < (S.nk : Int)) = false := decide_eq_false (by omega)
  by_cases h5 : 8 < S.np
  · have k5 : (8 : Int) < (S.np : Int) := by omega
    clear h5
    go_enter Try.func4, Try.ntmps4
    go_wp2_with fail
    refine HC.out.mono ?_
    rintro e w1 ⟨rfl, hb1⟩
    have HX1 := Lib.hid (HX0.out.below hb1)
    have HB1 := Lib.hid (thru HB0.out hb1 HB0.out.size)
    clear hb1 HX0 HB0 HC
    have b4 := HX1.out.c4
    have b5 := HX1.out.c5
    have b1 := HX1.out.c1
    have b2 := HX1.out.c2
    have b3 := HX1.out.c3
    have b0 := HX1.out.c0
    go_wp2
    go_ret
    exact ⟨rfl, HB1.out⟩
  have k5 : decide ((8 : Int) < (S.np : Int)) = false := decide_eq_false (by omega)
  by_cases h6 : 20 < ch.length
  · have k6 : (20 : Int) < (ch.length : Int) := by omega
    clear h6
    go_enter Try.func4, Try.ntmps4
    go_wp2_with fail
    refine HC.out.mono ?_
    rintro e w1 ⟨rfl, hb1⟩
    have HX1 := Lib.hid (HX0.out.below hb1)
    have HB1 := Lib.hid (thru HB0.out hb1 HB0.out.size)
    clear hb1 HX0 HB0 HC
    have b4 := HX1.out.c4
    have b5 := HX1.out.c5
    have b1 := HX1.out.c1
    have b2 := HX1.out.c2
    have b3 := HX1.out.c3
    have b0 := HX1.out.c0
    go_wp2
    go_ret
    exact ⟨rfl, HB1.out⟩
  exact absurd ⟨by omega, by omega, by omega, by omega, by omega, by omega, by omega⟩ HS.out
end Go.Proofs.Ytljhocdbfbjpiaa
namespace Go.Proofs.Ytljhocdbfbjpiaa
open Go.RowKit

theorem sysr_of {S : Sys} (h : RightOK S) : SysR S where
  u1 := fun i hi => by have := h.pt.pu i hi; omega
  u2 := fun i hi => by have := h.pt.pu i hi; omega
  pw := fun i hi => (h.pt.ki i hi).1
  gr := h.pt.gu
  out := fun x wet => by
    cases e : kFirst S.K x S.nk with
    | none => exact ⟨Int.le_refl 0, (show (0 : Int) ≤ 10000 by omega)⟩
    | some i => exact yok_out (h.pt.ki i (kFirst_spec e).1).2 wet
theorem step_any (S : Sys) (wet sec : Int) (w : World) (hM : SysM w S) (hZ : SysZ S) (h : RightOK S) :
    Calls Try.prog 13 #[sysS S, .int .i64 wet, .int .i64 sec] w (StepPost S wet sec w) := by
  by_cases hr : 1 ≤ sec ∧ sec ≤ 3600 ∧ S.t + sec ≤ 20000000 ∧ -1000 ≤ wet ∧ wet ≤ 1000
  · exact step_main S wet sec w hM hZ (sysr_of h) h.pt.po h.pa h.nu hr.1 hr.2.1 hr.2.2.1 hr.2.2.2.1 hr.2.2.2.2
  · exact step_range S wet sec w h.nu (by omega)
theorem drL_pre (K : KK) (m : Nat) (g : Nat → Nat → Int) (wet : Int) (n : Nat) : ∀ d, ∃ r, drL K m g wet (n + d) = drL K m g wet n ++ r
  | 0 => ⟨[], by simp⟩
  | d + 1 => by
    obtain ⟨r, hr⟩ := drL_pre K m g wet n d
    show ∃ r, (if g (n + d) 4 = 1 then drL K m g wet (n + d) ++ [(g (n + d) 1, outV (kPs K (kFirst K (g (n + d) 3) m)) wet)] else drL K m g wet (n + d)) = _
    split
    · exact ⟨r ++ [(g (n + d) 1, outV (kPs K (kFirst K (g (n + d) 3) m)) wet)], by rw [hr, List.append_assoc]⟩
    · exact ⟨r, hr⟩
theorem drL_off {K : KK} {m : Nat} {g : Nat → Nat → Int} {wet : Int} {k : Nat} (h : g k 4 ≠ 1) : drL K m g wet (k + 1) = drL K m g wet k := by rw [drL, if_neg h]
theorem drL_on {K : KK} {m : Nat} {g : Nat → Nat → Int} {wet : Int} {k n : Nat} (h : g k 4 = 1) (hk : k < n) :
    (drL K m g wet (k + 1)).length = (drL K m g wet k).length + 1 ∧ (drL K m g wet k).length < (drL K m g wet n).length ∧ Fix.py (drL K m g wet n) (drL K m g wet k).length = outV (kPs K (kFirst K (g k 3) m)) wet := by
  have e : drL K m g wet (k + 1) = drL K m g wet k ++ [(g k 1, outV (kPs K (kFirst K (g k 3) m)) wet)] := by rw [drL, if_pos h]
  obtain ⟨r, hr⟩ := drL_pre K m g wet (k + 1) (n - (k + 1))
  rw [show k + 1 + (n - (k + 1)) = n by omega, e, List.append_assoc] at hr
  refine ⟨by rw [e]; simp, by rw [hr]; simp, ?_⟩
  rw [hr]
  simp [Fix.py]
theorem vS_on {S : Sys} {wet sec : Int} {k : Nat} (h : S.fg k 4 = 1) : vS S wet sec k = outV (kPs S.K (kFirst S.K (S.fg k 3) S.nk)) wet * sec / 60 := by rw [vS, if_pos h]
theorem vS_off {S : Sys} {wet sec : Int} {k : Nat} (h : S.fg k 4 ≠ 1) : vS S wet sec k = 0 := by rw [vS, if_neg h]
theorem runS_step (S : Sys) (wet sec x : Int) (k : Nat) : runS S wet sec x (k + 1) = runS S wet sec x k + (if S.fg k 2 = x then vS S wet sec k else 0) := rfl
theorem top_pack {S : Sys} {wet sec : Int} (h : RightOK S) {i : Nat} (hi : i < S.na) (hm : (mkS S wet sec i).2.2.2 = 0) (s0 : 0 ≤ sec) (s1 : sec ≤ 3600) :
    (faS S wet sec S.na i 2 = S.fa i 2 ∧ faS S wet sec S.na i 3 = S.fa i 3 + mmS S wet sec i ∧ Snow.right (faS S wet sec S.na i 2) (faS S wet sec S.na i 3) (faS S wet sec S.na i 4) = true) ∧
    (0 ≤ mmS S wet sec i ∧ mmS S wet sec i ≤ 1000) ∧ (0 ≤ mmS S wet sec i * S.fa i 1 ∧ mmS S wet sec i * S.fa i 1 ≤ runS S wet sec (S.fa i 0) S.ng) ∧
    (S.fa i 1 ≤ runS S wet sec (S.fa i 0) S.ng - mmS S wet sec i * S.fa i 1 → mmS S wet sec i = 1000) := by
  obtain ⟨-, -, a1, a2⟩ := h.pa i hi
  have hr := h.sn i hi
  have hb := runS_bd (sysr_of h) (wet := wet) s0 s1 (S.fa i 0) S.ng
  have q0 : 0 ≤ runS S wet sec (S.fa i 0) S.ng / S.fa i 1 := Int.ediv_nonneg hb.1 (by omega)
  have q1 : runS S wet sec (S.fa i 0) S.ng / S.fa i 1 * S.fa i 1 ≤ runS S wet sec (S.fa i 0) S.ng := Int.ediv_mul_le _ (by omega)
  have q2 : runS S wet sec (S.fa i 0) S.ng < (runS S wet sec (S.fa i 0) S.ng / S.fa i 1 + 1) * S.fa i 1 := Int.lt_ediv_add_one_mul_self _ (by omega)
  rw [Int.add_mul, Int.one_mul] at q2
  have hmm : 0 ≤ mmS S wet sec i ∧ mmS S wet sec i ≤ 1000 := by
    unfold mmS
    split <;> omega
  have hml : mmS S wet sec i * S.fa i 1 ≤ runS S wet sec (S.fa i 0) S.ng := by
    unfold mmS
    split
    · exact q1
    · rename_i hn
      exact Int.le_trans (Int.mul_le_mul_of_nonneg_right (by omega) (by omega)) q1
  refine ⟨?_, hmm, ⟨Int.mul_nonneg hmm.1 (by omega), hml⟩, fun hge => ?_⟩
  · have e2 : faS S wet sec S.na i 2 = (mkS S wet sec i).1 := by unfold faS; rw [if_pos hi]; rfl
    have e3 : faS S wet sec S.na i 3 = (mkS S wet sec i).2.1 := by unfold faS; rw [if_pos hi]; rfl
    have e4 : faS S wet sec S.na i 4 = (mkS S wet sec i).2.2.1 := by unfold faS; rw [if_pos hi]; rfl
    rw [e2, e3, e4]
    obtain ⟨r1, r2, r3, r4, r5, r6⟩ := Snow.right_iff.1 hr
    unfold mkS Snow.make at hm ⊢
    rw [if_neg (by rw [hr]; simp), if_neg (by rw [Snow.within_iff.2 hmm]; simp)] at hm ⊢
    by_cases h3 : 20000 < S.fa i 3 + mmS S wet sec i
    · rw [if_pos h3] at hm
      cases hm
    · rw [if_neg h3]
      have hc := Snow.common_range (w := S.fa i 2 + S.fa i 3) (mm := mmS S wet sec i) (a := S.fa i 4) (b := 450) (by omega) hmm.1 r5 r6 (by omega) (by omega)
      exact ⟨rfl, rfl, Snow.right_iff.2 ⟨r1, r2, by dsimp only; omega, by dsimp only; omega, hc.1, hc.2⟩⟩
  · unfold mmS at hge ⊢
    split
    · rename_i hl
      rw [if_pos hl] at hge
      omega
    · rfl
theorem top_pow {S : Sys} {wet P : Int} (h : RightOK S) (hP : PowR S wet P 0) : 0 ≤ P ∧ ∀ ch, flowS S wet ≤ chS S.fu 1 ch S.nu → P ≤ chS S.fu 2 ch S.nu + gPow S.K S.nk S.fg S.ng := by
  have hg := gPow_bd (g := S.fg) (sysr_of h).pw S.ng
  rcases hP with ⟨_, Pb, hb, rfl⟩ | ⟨h, _⟩
  · rcases hb with ⟨_, ⟨c0, h1, rfl⟩, h3⟩ | ⟨h, _⟩
    · have hc := chS_bd (ch := c0) (n := S.nu) (M := 100000000) (sysr_of h).u2
      exact ⟨by omega, fun ch hf => by have := h3 ch hf; omega⟩
    · cases h
  · cases h
end Go.Proofs.Ytljhocdbfbjpiaa
namespace Go.Proofs.Ytljhocdbfbjpiaa
open Go.RowKit

/-- A nil slice is the zero value. -/
structure NilS (S : Sys) : Prop where
  po0 : S.po = none → S.np = 0 ∧ S.cp = 0
  pu0 : S.pu = none → S.nu = 0 ∧ S.cu = 0
  pi0 : S.pi = none → S.ni = 0 ∧ S.ci = 0
  ki0 : S.ki = none → S.nk = 0 ∧ S.ck = 0
  gu0 : S.gu = none → S.ng = 0 ∧ S.cg = 0
  pa0 : S.pa = none → S.na = 0 ∧ S.ca = 0
  kp0 : ∀ i, i < S.nk → S.K.A i = none → (S.K.p i).length = 0 ∧ S.K.c i = 0
theorem NilS.z {S : Sys} (h : NilS S) {ch : List Int} (hs : Small S ch) (hk : ∀ i, i < S.nk → (S.K.p i).length ≤ 70) : SysZ S :=
  ⟨hs.np, hs.nu, hs.ni, hs.nk, hs.ng, hs.na, hk, h.po0, h.pu0, h.pi0, h.ki0, h.gu0, h.pa0, h.kp0⟩
/-- The row of the runs' water, made last; nothing older turns. -/
structure TR (R n : Nat) (Wb W : World) (F : Nat → Int) : Prop where
  be : Below R Wb W
  z : R < W.heap.size
  r : ∀ i, i < n → W.cell? ⟨R, i, none⟩ = some (.int .i64 (F i))
  f : ∀ i, W.frozen? ⟨R, i, none⟩ = false
theorem TR.below {R n : Nat} {Wb W W' : World} {F : Nat → Int} (h : TR R n Wb W F) (hb : Below W.heap.size W W') : TR R n Wb W' F :=
  ⟨thru h.be hb (Nat.le_of_lt h.z), Nat.lt_of_lt_of_le h.z hb.size, fun i hi => (hb.cell (p := ⟨R, i, none⟩) h.z).trans (h.r i hi), fun i => (hb.frozen (p := ⟨R, i, none⟩) h.z).trans (h.f i)⟩
theorem TR.set {R n : Nat} {Wb W : World} {F : Nat → Int} (h : TR R n Wb W F) (i : Nat) (x : Int) : TR R n Wb (W.setCell ⟨R, i, none⟩ (.int .i64 x)) (up F i x) :=
  ⟨h.be.setCell (p := ⟨R, i, none⟩) (Nat.le_refl _) _, by simpa using h.z, row_set h.r i x, fun j => (World.frozen?_setCell _ _ _ _).trans (h.f j)⟩
theorem TR.congr {R n : Nat} {Wb W : World} {F G : Nat → Int} (h : TR R n Wb W F) (e : ∀ i, i < n → F i = G i) : TR R n Wb W G :=
  ⟨h.be, h.z, fun i hi => by rw [← e i hi]; exact h.r i hi, h.f⟩
theorem TR.made (n : Nat) (W : World) : TR W.heap.size n W (W.alloc (.cells (madeCells #[.int .i64 0] n) 3)) (fun _ => 0) :=
  ⟨Joins.below_alloc1 _ _, by simp, fun i hi => made_at _ _ _ _ hi, fun i => made_fr _ _ _ _ _⟩
set_option maxRecDepth 100000 in
set_option maxHeartbeats 16000000 in
theorem topw_small (S : Sys) (wet sec : Int) (ch : List Int) (C : Option Addr) (cc : Nat) (w : World) (hM : SysM w S) (hN : NilS S) (hC : Rd w C ch) (hs : Small S ch) :
    Calls Try.prog 4 #[sysS S, .int .i64 wet, .int .i64 sec, .slice C ch.length cc] w (TrueB w) := by
  have hb0 : Below w.heap.size w (w.alloc (.cells #[.slice S.po S.np S.cp, .slice S.pu S.nu S.cu, .slice S.pi S.ni S.ci, .slice S.ki S.nk S.ck, .slice S.gu S.ng S.cg, .slice S.pa S.na S.ca, .int .i64 S.p, .int .i64 S.l, .int .i64 S.t, .int .i64 S.wa, .int .i64 S.lo, .int .i64 S.en, .int .i64 S.inn] 41)) := Joins.below_alloc1 _ _
  have hx0 := BoxAt.mk0 w (.slice S.po S.np S.cp) (.slice S.pu S.nu S.cu) (.slice S.pi S.ni S.ci) (.slice S.ki S.nk S.ck) (.slice S.gu S.ng S.cg) (.slice S.pa S.na S.ca) S.p S.l S.t S.wa S.lo S.en S.inn
  have HC := Lib.hid (waterAlive_any (w.alloc (.cells #[.slice S.po S.np S.cp, .slice S.pu S.nu S.cu, .slice S.pi S.ni S.ci, .slice S.ki S.nk S.ck, .slice S.gu S.ng S.cg, .slice S.pa S.na S.ca, .int .i64 S.p, .int .i64 S.l, .int .i64 S.t, .int .i64 S.wa, .int .i64 S.lo, .int .i64 S.en, .int .i64 S.inn] 41)))
  have HX0 := Lib.hid hx0
  have HB0 := Lib.hid hb0
  have HM := Lib.hid hM
  have HN := Lib.hid hN
  have HCH := Lib.hid hC
  have k0 : decide ((8 : Int) < (S.ng : Int)) = false := decide_eq_false (by have := hs.ng; omega)
  have k1 : decide ((8 : Int) < (S.na : Int)) = false := decide_eq_false (by have := hs.na; omega)
  have k2 : decide ((8 : Int) < (S.nu : Int)) = false := decide_eq_false (by have := hs.nu; omega)
  have k3 : decide ((8 : Int) < (S.ni : Int)) = false := decide_eq_false (by have := hs.ni; omega)
  have k4 : decide ((8 : Int) < (S.nk : Int)) = false := decide_eq_false (by have := hs.nk; omega)
  have k5 : decide ((8 : Int) < (S.np : Int)) = false := decide_eq_false (by have := hs.np; omega)
  have k6 : decide ((20 : Int) < (ch.length : Int)) = false := decide_eq_false (by have := hs.ch; omega)
  have hnk : (S.nk : Int) ≤ 8 := by have := hs.nk; omega
  have HS := Lib.hid hs
  clear hb0 hx0 hM hN hC hs
  go_enter Try.func4, Try.ntmps4
  go_wp2_with fail
  refine HC.out.mono ?_
  rintro e w1 ⟨rfl, hb1⟩
  have HX1 := Lib.hid (HX0.out.below hb1)
  have HB1 := Lib.hid (thru HB0.out hb1 HB0.out.size)
  clear hb1 HX0 HB0 HC
  have b4 := HX1.out.c4
  have b5 := HX1.out.c5
  have b1 := HX1.out.c1
  have b2 := HX1.out.c2
  have b3 := HX1.out.c3
  have b0 := HX1.out.c0
  go_wp2
  clear k0 k1 k2 k3 k4 k5 k6 b0 b1 b2 b4 b5
  go_loopw [9] (fun i wr => ∃ k : Nat, k ≤ S.nk ∧ i = .int .i64 k ∧ Hid (∀ i, i < k → (S.K.p i).length ≤ 70) ∧ w1 = wr) (fun i _ => S.nk - (intOf i).toNat)
  case atStart => exact ⟨0, Nat.zero_le _, rfl, Lib.hid (fun m hm => absurd hm (by omega)), rfl⟩
  case round =>
    obtain ⟨k, hk, rfl, HALL, rfl⟩ := hrel
    by_cases hlt : k < S.nk
    · have hlti : (k : Int) < (S.nk : Int) := by omega
      obtain ⟨b, off, hki, hbz, hc⟩ := (HM.out.below HB1.out).ki.at_ hlt
      have c1 := hc.c1
      rw [hki] at b3
      obtain ⟨n, hn⟩ : ∃ n, n = (S.K.p k).length := ⟨_, rfl⟩
      rw [← hn] at c1
      have HLT := Lib.hid hlt
      have HNE := Lib.hid hn
      have HKI := Lib.hid hki
      clear hlt hn hki hc
      by_cases h70 : 70 < n
      · have h70i : (70 : Int) < (n : Int) := by omega
        clear h70
        go_wp2
        go_ret
        exact ⟨rfl, HB1.out⟩
      · have h70i : decide ((70 : Int) < (n : Int)) = false := decide_eq_false (by omega)
        have HA2 : Hid (∀ i, i < k + 1 → (S.K.p i).length ≤ 70) := Lib.hid fun i hi => by
          by_cases e : i = k
          · subst e; rw [← HNE.out]; omega
          · exact HALL.out i (by omega)
        clear h70
        go_wp2
        go_roundw
        case rel => exact ⟨k + 1, HLT.out, by go_num, HA2, by first | rfl | trivial⟩
        case measure => have := HLT.out; simp [intOf]; omega
    · have hlti : decide ((k : Int) < (S.nk : Int)) = false := decide_eq_false (by omega)
      have HZ := Lib.hid (HN.out.z HS.out (fun i hi => HALL.out i (by omega)))
      obtain hkn : k = S.nk := by omega
      clear hlt hk hnk HALL
      have d0 := HX1.out.c0
      have d1 := HX1.out.c1
      have d2 := HX1.out.c2
      have d3 := HX1.out.c3
      have d4 := HX1.out.c4
      have d5 := HX1.out.c5
      have d6 := HX1.out.c6
      have d7 := HX1.out.c7
      have d8 := HX1.out.c8
      have d9 := HX1.out.c9
      have d10 := HX1.out.c10
      have d11 := HX1.out.c11
      have d12 := HX1.out.c12
      have HC := Lib.hid (rsys_any S _ (HM.out.below HB1.out) HZ.out)
      clear b3
      go_wp2_with fail
      refine HC.out.mono ?_
      rintro e w2 ⟨⟨E, rfl, hok⟩, hb2⟩
      have HX2 := Lib.hid (HX1.out.below hb2)
      have HB2 := Lib.hid (thru HB1.out hb2 HB1.out.size)
      have HOK := Lib.hid hok
      clear hb2 hok HC HX1 HB1 hlti hkn d0 d1 d2 d3 d4 d5 d6 d7 d8 d9 d10 d11 d12
      by_cases hE : E = 0
      rotate_left
      · have hE1 : (E == 0) = false := beq_eq_false_iff_ne.2 hE
        have hE2 : (E != 0) = true := by simp [hE]
        clear hE
        go_wp2
        go_ret
        exact ⟨rfl, HB2.out⟩
      subst hE
      have HR := Lib.hid (HOK.out rfl)
      clear HOK
      have d0 := HX2.out.c0
      have d1 := HX2.out.c1
      have d2 := HX2.out.c2
      have d3 := HX2.out.c3
      have d4 := HX2.out.c4
      have d5 := HX2.out.c5
      have d6 := HX2.out.c6
      have d7 := HX2.out.c7
      have d8 := HX2.out.c8
      have d9 := HX2.out.c9
      have d10 := HX2.out.c10
      have d11 := HX2.out.c11
      have d12 := HX2.out.c12
      have HC := Lib.hid (step_any S wet sec w2 (HM.out.below HB2.out) HZ.out HR.out)
      go_wp2_with fail
      refine HC.out.mono ?_
      rintro e w3 ⟨⟨v0, v1, v2, v3, v4, v5, p, l, t, wa, lo, en, inn, E, rfl, ho, hg, -⟩, hb3⟩
      have HX3 := Lib.hid (HX2.out.below hb3)
      have HB3 := Lib.hid (thru HB2.out hb3 HB2.out.size)
      clear hb3 HC HX2 HB2 d0 d1 d2 d3 d4 d5 d6 d7 d8 d9 d10 d11 d12
      have hx := BoxAt.mk0 w3 (.slice none 0 0) (.slice none 0 0) (.slice none 0 0) (.slice none 0 0) (.slice none 0 0) (.slice none 0 0) 0 0 0 0 0 0 0
      have HTH := Lib.hid hx.there
      have HT := Lib.hid (hx.stored v0 v1 v2 v3 v4 v5 p l t wa lo en inn)
      have HBZ := Lib.hid (show Below w3.heap.size w3 ((w3.alloc (.cells #[.slice none 0 0, .slice none 0 0, .slice none 0 0, .slice none 0 0, .slice none 0 0, .slice none 0 0, .int .i64 0, .int .i64 0, .int .i64 0, .int .i64 0, .int .i64 0, .int .i64 0, .int .i64 0] 41)).setCells w3.heap.size 0 [v0, v1, v2, v3, v4, v5, .int .i64 p, .int .i64 l, .int .i64 t, .int .i64 wa, .int .i64 lo, .int .i64 en, .int .i64 inn]) from (Joins.below_alloc1 w3 (.cells #[.slice none 0 0, .slice none 0 0, .slice none 0 0, .slice none 0 0, .slice none 0 0, .slice none 0 0, .int .i64 0, .int .i64 0, .int .i64 0, .int .i64 0, .int .i64 0, .int .i64 0, .int .i64 0] 41)).trans ((setCells_only w3.heap.size [v0, v1, v2, v3, v4, v5, .int .i64 p, .int .i64 l, .int .i64 t, .int .i64 wa, .int .i64 lo, .int .i64 en, .int .i64 inn] 0 (w3.alloc (.cells #[.slice none 0 0, .slice none 0 0, .slice none 0 0, .slice none 0 0, .slice none 0 0, .slice none 0 0, .int .i64 0, .int .i64 0, .int .i64 0, .int .i64 0, .int .i64 0, .int .i64 0, .int .i64 0] 41))).below (Nat.le_refl _)))
      have HO := Lib.hid (all13 ho.1 ho.2.1 ho.2.2.1 ho.2.2.2.1 ho.2.2.2.2.1 ho.2.2.2.2.2 p l t wa lo en inn)
      have HG := Lib.hid hg
      clear hx ho hg
      apply_assumption
      iterate 12 go_step
      refine wpList_store_mid rfl 41 (.tmp 10) (.tmp 90) rfl w3.heap.size 0 #[v0, v1, v2, v3, v4, v5, .int .i64 p, .int .i64 l, .int .i64 t, .int .i64 wa, .int .i64 lo, .int .i64 en, .int .i64 inn] rfl rfl HTH.out sys_size HO.out ?_
      change wpList _ _ _ _ _ ((w3.alloc (.cells #[.slice none 0 0, .slice none 0 0, .slice none 0 0, .slice none 0 0, .slice none 0 0, .slice none 0 0, .int .i64 0, .int .i64 0, .int .i64 0, .int .i64 0, .int .i64 0, .int .i64 0, .int .i64 0] 41)).setCells w3.heap.size 0 [v0, v1, v2, v3, v4, v5, .int .i64 p, .int .i64 l, .int .i64 t, .int .i64 wa, .int .i64 lo, .int .i64 en, .int .i64 inn])
      have HMZ := Lib.hid ((HM.out.below HB3.out).below HBZ.out)
      have HXZ := Lib.hid (HX3.out.below HBZ.out)
      have HB4 := Lib.hid (thru HB3.out HBZ.out HB3.out.size)
      have HGZ : Hid (E = 0 → ∃ P B d, (1 ≤ sec ∧ sec ≤ 3600) ∧ PowR S wet P 0 ∧ P ≤ S.l ∧ wa = S.wa + sumV S wet sec ∧ en = S.en + P * sec ∧ v5 = .slice B S.na d ∧ RI ((w3.alloc (.cells #[.slice none 0 0, .slice none 0 0, .slice none 0 0, .slice none 0 0, .slice none 0 0, .slice none 0 0, .int .i64 0, .int .i64 0, .int .i64 0, .int .i64 0, .int .i64 0, .int .i64 0, .int .i64 0] 41)).setCells w3.heap.size 0 [v0, v1, v2, v3, v4, v5, .int .i64 p, .int .i64 l, .int .i64 t, .int .i64 wa, .int .i64 lo, .int .i64 en, .int .i64 inn]) B 5 S.na (faS S wet sec S.na) ∧ ∀ i, i < S.na → (mkS S wet sec i).2.2.2 = 0) := Lib.hid fun h => by
        obtain ⟨s1, s2, P, A, c, B, d, Q, h1, h2, h3, h4, h5, h6, h7, -, -, -⟩ := HG.out h
        exact ⟨P, B, d, ⟨s1, s2⟩, h1, h2, h3, h4, h5, h6.below HBZ.out, h7⟩
      clear HTH HO HG HX3 HB3 HBZ
      generalize (w3.alloc (.cells #[.slice none 0 0, .slice none 0 0, .slice none 0 0, .slice none 0 0, .slice none 0 0, .slice none 0 0, .int .i64 0, .int .i64 0, .int .i64 0, .int .i64 0, .int .i64 0, .int .i64 0, .int .i64 0] 41)).setCells w3.heap.size 0 [v0, v1, v2, v3, v4, v5, .int .i64 p, .int .i64 l, .int .i64 t, .int .i64 wa, .int .i64 lo, .int .i64 en, .int .i64 inn] = w4 at HT HMZ HXZ HB4 HGZ ⊢
      generalize w3.heap.size = T at HT ⊢
      by_cases hE : E = 0
      rotate_left
      · have hE1 : (E == 0) = false := beq_eq_false_iff_ne.2 hE
        have hE2 : (E != 0) = true := by simp [hE]
        clear hE
        go_wp2
        go_ret
        exact ⟨rfl, HB4.out⟩
      subst hE
      obtain ⟨P, B, d, hsec, hP, hPl, hwa, hen, rfl, hB, hmk⟩ := HGZ.out rfl
      have s1 : 1 ≤ sec := hsec.1
      have s1f : decide (sec < 1) = false := decide_eq_false (by omega)
      have HP := Lib.hid hP
      have HPL := Lib.hid hPl
      have HWA := Lib.hid hwa
      have HEN := Lib.hid hen
      have HRB := Lib.hid hB
      have HMK := Lib.hid hmk
      have HSEC := Lib.hid hsec
      clear hP hPl hwa hen hB hmk hsec HGZ
      have b3 := HXZ.out.c3
      have b4 := HXZ.out.c4
      have HC := Lib.hid (draws_any S.nk S.ng S.ck S.cg S.K S.fg wet S.ki S.gu w4 HMZ.out.ki HMZ.out.gu (by have := HZ.out.nk; omega) (by have := HZ.out.ng; omega))
      go_wp2_with fail
      refine HC.out.mono ?_
      rintro e w5 ⟨⟨D, c, rfl, hD⟩, hb5⟩
      have HXb := Lib.hid (HXZ.out.below hb5)
      have HTb := Lib.hid (HT.out.below hb5)
      have HMb := Lib.hid (HMZ.out.below hb5)
      have HRb := Lib.hid (HRB.out.below hb5)
      have HBb := Lib.hid (thru HB4.out hb5 HB4.out.size)
      have HDb := Lib.hid hD
      clear hb5 hD HC HXZ HT HMZ HRB HB4 b3 b4 s1f
      have b5 := HXb.out.c5
      have hna : (S.na : Int) ≤ 8 := by have := HZ.out.na; omega
      have hmk : ∀ W', (Instr.makeSlice 28 (.int .i64 (S.na : Int)) (.int .i64 (S.na : Int))).run Try.prog W' = .ok (.slice (some ⟨W'.heap.size, 0, none⟩) S.na S.na) (W'.alloc (.cells (madeCells #[.int .i64 0] S.na) 3)) := fun W' => make_ints S.na (by omega) W'
      have HTR := Lib.hid (TR.made S.na w5)
      go_wp2_with fail
      clear hmk b5
      have hng8 : (S.ng : Int) ≤ 8 := by have := HZ.out.ng; omega
      have HLD := Lib.hid (drL_len S.K S.nk S.fg wet S.ng)
      go_loopw [13, 14, 15, 17] (fun f v q i wr => ∃ (k m : Nat) (F W : Int), k ≤ S.ng ∧ i = .int .i64 k ∧ f = .int .i64 F ∧ v = .int .i64 W ∧ q = .int .i64 m ∧ Hid (m = (drL S.K S.nk S.fg wet k).length ∧ F = sumN (Fix.py (drS S wet)) m ∧ W = sumN (vS S wet sec) k) ∧ Hid (TR w5.heap.size S.na w5 wr (fun j => runS S wet sec (S.fa j 0) k))) (fun _ _ _ i _ => S.ng - (intOf i).toNat)
      case atStart => exact ⟨0, 0, 0, 0, Nat.zero_le _, rfl, rfl, rfl, rfl, Lib.hid ⟨rfl, rfl, rfl⟩, HTR⟩
      case round =>
        clear HTR
        rename World => wo
        obtain ⟨k, m, F, W, hk, rfl, rfl, rfl, rfl, HV, HT⟩ := hrel
        have HXo := Lib.hid (HXb.out.below HT.out.be)
        have b4 := HXo.out.c4
        have hmk : m ≤ k := by rw [HV.out.1]; exact drL_len _ _ _ _ _
        have hF0 : 0 ≤ F ∧ F ≤ (m : Int) * 10000 := by
          rw [HV.out.2.1]
          have := sumN_bd (f := Fix.py (drS S wet)) (n := m) (lo := 0) (hi := 10000) fun i _ => by
            by_cases e : i < (drS S wet).length
            · exact drL_py (sysr_of HR.out).out e
            · rw [show Fix.py (drS S wet) i = 0 by simp [Fix.py, Nat.le_of_not_lt e]]; omega
          simpa using this
        have hW0 : 0 ≤ W ∧ W ≤ (k : Int) * 600000 := by
          rw [HV.out.2.2]
          have := sumN_bd (f := vS S wet sec) (n := k) (lo := 0) (hi := 600000) fun i _ => vS_bd (sysr_of HR.out) (by have := HSEC.out; omega) HSEC.out.2 i
          simpa using this
        have hF1 : 0 ≤ F := hF0.1
        have hF2 : F ≤ 80000 := by omega
        have hW1 : 0 ≤ W := hW0.1
        have hW2 : W ≤ 4800000 := by omega
        clear hF0 hW0
        by_cases hlt : k < S.ng
        · have hlti : (k : Int) < (S.ng : Int) := by omega
          obtain ⟨b, off, hgu, hbz, hc⟩ := (HMb.out.below HT.out.be).gu.at_ hlt
          have c4 := hc 4 (by omega)
          obtain ⟨x4, e4⟩ : ∃ x, x = S.fg k 4 := ⟨_, rfl⟩
          rw [← e4] at c4
          rw [hgu] at b4
          have HLT := Lib.hid hlt
          have HGU := Lib.hid hgu
          have HE4 := Lib.hid e4
          clear hc hlt hgu e4
          by_cases hon : x4 = 1
          rotate_left
          · have x1 : (x4 == 1) = false := beq_eq_false_iff_ne.2 hon
            have x2 : (x4 != 1) = true := by simp [hon]
            have hof : S.fg k 4 ≠ 1 := by rw [← HE4.out]; exact hon
            have HV2 : Hid (m = (drL S.K S.nk S.fg wet (k + 1)).length ∧ F = sumN (Fix.py (drS S wet)) m ∧ W = sumN (vS S wet sec) (k + 1)) := Lib.hid ⟨by rw [drL_off hof]; exact HV.out.1, HV.out.2.1, by rw [sumN, vS_off hof, ← HV.out.2.2]; omega⟩
            have HT2 : Hid (TR w5.heap.size S.na w5 wo (fun j => runS S wet sec (S.fa j 0) (k + 1))) := Lib.hid (HT.out.congr fun i _ => by rw [runS_step, vS_off hof]; simp)
            clear hon hof
            go_wp2
            go_roundw
            case rel => exact ⟨k + 1, m, F, W, HLT.out, by go_num, rfl, rfl, rfl, HV2, HT2⟩
            case measure => have := HLT.out; simp [intOf]; omega
          have x1 : (x4 != 1) = false := by simp [hon]
          have hon1 : S.fg k 4 = 1 := by rw [← HE4.out]; exact hon
          obtain ⟨hl1, hl2, hl3⟩ := drL_on (K := S.K) (m := S.nk) (g := S.fg) (wet := wet) (n := S.ng) hon1 HLT.out
          rw [← HV.out.1] at hl1 hl2 hl3
          obtain ⟨O, hO⟩ : ∃ O, O = outV (kPs S.K (kFirst S.K (S.fg k 3) S.nk)) wet := ⟨_, rfl⟩
          have hv : vS S wet sec k = O * sec / 60 := by rw [vS_on hon1, hO]
          have hob := (sysr_of HR.out).out (S.fg k 3) wet
          rw [← hO] at hob hl3
          obtain ⟨⟨p0, p1⟩, p2, p3⟩ := vol_bd hob.1 hob.2 (show 0 ≤ sec by have := HSEC.out; omega) HSEC.out.2
          obtain ⟨bd, offd, hDe, hbd, hcd⟩ := (HDb.out.below HT.out.be) (by omega)
          have d1 := (hcd m hl2).2
          rw [hl3] at d1
          have hml : (m : Int) < ((drL S.K S.nk S.fg wet S.ng).length : Int) := by omega
          have hmlf : decide (((drL S.K S.nk S.fg wet S.ng).length : Int) ≤ (m : Int)) = false := decide_eq_false (by omega)
          obtain ⟨V, hV⟩ : ∃ V, O * sec / 60 = V := ⟨_, rfl⟩
          rw [hV] at hv p2 p3
          have HV2 : Hid (m + 1 = (drL S.K S.nk S.fg wet (k + 1)).length ∧ F + O = sumN (Fix.py (drS S wet)) (m + 1) ∧ W + V = sumN (vS S wet sec) (k + 1)) := Lib.hid ⟨hl1.symm, by rw [sumN, show Fix.py (drS S wet) m = O from hl3, ← HV.out.2.1], by rw [sumN, hv, ← HV.out.2.2]⟩
          have HVK := Lib.hid hv
          have o0 := hob.1
          have o1 := hob.2
          have hme : m < (drL S.K S.nk S.fg wet S.ng).length := hl2
          have hm8 : (m : Int) ≤ 8 := by omega
          clear hon hon1 hl1 hl2 hl3 hO hv hob hcd
          subst hDe
          go_wp2_with fail
          rw [hV]
          clear x1 p0 p1 hV d1 hml hmlf hme c4 b4 hmk
          go_loopw [19] (fun i wq => ∃ j : Nat, j ≤ S.na ∧ i = .int .i64 j ∧ Hid (TR w5.heap.size S.na w5 wq (fun q => if q < j then runS S wet sec (S.fa q 0) (k + 1) else runS S wet sec (S.fa q 0) k))) (fun i _ => S.na - (intOf i).toNat)
          case atStart => exact ⟨0, Nat.zero_le _, rfl, Lib.hid (HT.out.congr fun q _ => by rw [if_neg (Nat.not_lt_zero q)])⟩
          case round =>
            clear HT HXo
            obtain ⟨j, hj, rfl, HT⟩ := hrel
            have HXq := Lib.hid (HXb.out.below HT.out.be)
            have b5 := HXq.out.c5
            by_cases hjn : j < S.na
            · have hjni : (j : Int) < (S.na : Int) := by omega
              have b4 := HXq.out.c4
              rw [HGU.out] at b4
              obtain ⟨b', off', hgu', hbz', hc'⟩ := (HMb.out.below HT.out.be).gu.at_ HLT.out
              obtain ⟨rfl, rfl⟩ : b' = b ∧ off' = off := by
                rw [HGU.out] at hgu'
                injection hgu' with h
                injection h with h1 h2
                exact ⟨h1.symm, h2.symm⟩
              have c2 := hc' 2 (by omega)
              obtain ⟨x2, e2⟩ : ∃ x, x = S.fg k 2 := ⟨_, rfl⟩
              rw [← e2] at c2
              obtain ⟨bp, offp, hpa, hbp, hcp⟩ := (HMb.out.below HT.out.be).pa.at_ hjn
              have q0 := hcp 0 (by omega)
              rw [Nat.add_zero] at q0
              obtain ⟨x0, e0⟩ : ∃ x, x = S.fa j 0 := ⟨_, rfl⟩
              rw [← e0] at q0
              rw [hpa] at b5
              have r0 := HT.out.r j hjn
              rw [if_neg (Nat.lt_irrefl j), ← e0] at r0
              have hrb := runS_bd (sysr_of HR.out) (wet := wet) (show 0 ≤ sec by have := HSEC.out; omega) HSEC.out.2 x0 k
              obtain ⟨Y, hY⟩ : ∃ Y, Y = runS S wet sec x0 k := ⟨_, rfl⟩
              rw [← hY] at r0 hrb
              have y0 : 0 ≤ Y := hrb.1
              have y1 : Y ≤ 4800000 := by omega
              have rf := HT.out.f j
              have rz := HT.out.z
              have HJN := Lib.hid hjn
              have HE := Lib.hid (And.intro e0 (And.intro e2 hY))
              clear hgu' hc' hcp hpa e0 e2 hY hrb hjn
              by_cases hx : x0 = x2
              rotate_left
              · have z1 : (x0 == x2) = false := beq_eq_false_iff_ne.2 hx
                have z2 : decide (x0 = x2) = false := decide_eq_false hx
                have HT2 : Hid (TR w5.heap.size S.na w5 wr (fun q => if q < j + 1 then runS S wet sec (S.fa q 0) (k + 1) else runS S wet sec (S.fa q 0) k)) := Lib.hid (HT.out.congr fun q _ => by
                  by_cases e : q = j
                  · subst e
                    rw [if_neg (Nat.lt_irrefl _), if_pos (Nat.lt_succ_self _), runS_step, if_neg (by rw [← HE.out.1, ← HE.out.2.1]; exact fun h => hx h.symm)]
                    omega
                  · by_cases e2 : q < j
                    · rw [if_pos e2, if_pos (by omega)]
                    · rw [if_neg e2, if_neg (by omega)])
                clear hx
                go_wp2
                go_quiet (fail)
                go_wp2
                go_roundw
                case rel => exact ⟨j + 1, HJN.out, by go_num, Lib.hid (HT2.out.below (Joins.below_draws _ _ _))⟩
                case measure => have := HJN.out; simp [intOf]; omega
              have z1 : (x0 == x2) = true := beq_iff_eq.2 hx
              have z2 : decide (x0 = x2) = true := decide_eq_true hx
              have HT2 : Hid (∀ W', Below wr.heap.size wr W' → TR w5.heap.size S.na w5 (W'.setCell ⟨w5.heap.size, j, none⟩ (.int .i64 (Y + V))) (fun q => if q < j + 1 then runS S wet sec (S.fa q 0) (k + 1) else runS S wet sec (S.fa q 0) k)) := Lib.hid fun W' hb => ((HT.out.below hb).set j (Y + V)).congr fun q _ => by
                by_cases e : q = j
                · subst e
                  rw [up, if_pos rfl, if_pos (Nat.lt_succ_self _), runS_step, ← HE.out.1, if_pos (by rw [← HE.out.2.1]; exact hx.symm), ← HE.out.2.2, HVK.out]
                · rw [up, if_neg e]
                  by_cases e2 : q < j
                  · rw [if_pos e2, if_pos (by omega)]
                  · rw [if_neg e2, if_neg (by omega)]
              clear hx
              go_wp2
              go_quiet (fail)
              go_wp2
              go_roundw
              case rel => exact ⟨j + 1, HJN.out, by go_num, Lib.hid (HT2.out _ (Joins.below_draws _ _ _))⟩
              case measure => have := HJN.out; simp [intOf]; omega
            · have hjni : decide ((j : Int) < (S.na : Int)) = false := decide_eq_false (by omega)
              have HT2 : Hid (TR w5.heap.size S.na w5 wr (fun q => runS S wet sec (S.fa q 0) (k + 1))) := Lib.hid (HT.out.congr fun q hq => by rw [if_pos (by omega)])
              clear hj
              go_wp2
              go_roundw
              case rel => exact ⟨k + 1, m + 1, F + O, W + V, HLT.out, by go_num, rfl, rfl, by go_num, HV2, HT2⟩
              case measure => have := HLT.out; simp [intOf]; omega
        · have hlti : decide ((k : Int) < (S.ng : Int)) = false := decide_eq_false (by omega)
          have hke : k = S.ng := by omega
          have HV3 : Hid (m = (drL S.K S.nk S.fg wet S.ng).length ∧ F = flowS S wet ∧ W = sumV S wet sec) := Lib.hid (by
            obtain ⟨e1, e2, e3⟩ := HV.out
            rw [hke] at e1 e3
            exact ⟨e1, by rw [e2, e1], e3⟩)
          have HT0 : Hid (TR w5.heap.size S.na w5 wo (fun j => runS S wet sec (S.fa j 0) S.ng)) := Lib.hid (by rw [← hke]; exact HT.out)
          obtain rfl : m = (drL S.K S.nk S.fg wet S.ng).length := HV3.out.1
          clear hke HV HT hmk hF1 hF2 hW1 hW2
          have HTo := Lib.hid (HTb.out.below HT0.out.be)
          have t9 := HTo.out.c9
          have t5 := HTo.out.c5
          have b9 := HXo.out.c9
          have b5 := HXo.out.c5
          have g1 : wrap64 W = W := by
            have h1 := HWA.out
            have h2 := HV3.out.2.2
            have h3 := sumN_bd (f := vS S wet sec) (n := S.ng) (lo := 0) (hi := 600000) fun i _ => vS_bd (sysr_of HR.out) (by have := HSEC.out; omega) HSEC.out.2 i
            have h4 := HZ.out.ng
            have h5 : (S.ng : Int) ≤ 8 := by omega
            simp only [sumV] at h2
            exact IntWalk.wrap64_in _ (by omega)
          have g2 : wa - S.wa = W := by have h1 := HWA.out; have h2 := HV3.out.2.2; omega
          go_wp2_with fail
          clear t9 t5 b9 b5 g1 g2 hlti b4
          go_loopw [20] (fun i wr => ∃ j : Nat, j ≤ S.na ∧ i = .int .i64 j ∧ Hid (TR w5.heap.size S.na w5 wr (fun j => runS S wet sec (S.fa j 0) S.ng))) (fun i _ => S.na - (intOf i).toNat)
          case atStart => exact ⟨0, Nat.zero_le _, rfl, HT0⟩
          case round =>
            clear HT0 HXo HTo
            rename World => wp
            obtain ⟨j, hj, rfl, HT⟩ := hrel
            have HXq := Lib.hid (HXb.out.below HT.out.be)
            have b5 := HXq.out.c5
            by_cases hjn : j < S.na
            · have hjni : (j : Int) < (S.na : Int) := by omega
              obtain ⟨bp, offp, hpa, hbp, hcp⟩ := (HMb.out.below HT.out.be).pa.at_ hjn
              have c2 := hcp 2 (by omega)
              have c3 := hcp 3 (by omega)
              have c4 := hcp 4 (by omega)
              have c1 := hcp 1 (by omega)
              obtain ⟨bq, offq, hBe, hbq, hcq⟩ := (HRb.out.below HT.out.be).at_ hjn
              have y2 := hcq 2 (by omega)
              have y3 := hcq 3 (by omega)
              have y4 := hcq 4 (by omega)
              have r0 := HT.out.r j hjn
              obtain ⟨⟨e2, e3, hry⟩, ⟨hm0, hm1⟩, ⟨hq0, hq1⟩, hq2⟩ := top_pack (wet := wet) (sec := sec) HR.out hjn (HMK.out j hjn) (by have := HSEC.out; omega) HSEC.out.2
              have hrx := HR.out.sn j hjn
              have hw1 : Snow.water (S.fa j 2) (S.fa j 3) (S.fa j 4) = (S.fa j 2 + S.fa j 3, 0) := by rw [Snow.water, if_neg (by rw [hrx]; simp)]
              have hw2 : Snow.water (faS S wet sec S.na j 2) (faS S wet sec S.na j 3) (faS S wet sec S.na j 4) = (S.fa j 2 + (S.fa j 3 + mmS S wet sec j), 0) := by rw [Snow.water, if_neg (by rw [hry]; simp), e2, e3]
              obtain ⟨-, -, a1, a2⟩ := HR.out.pa j hjn
              obtain ⟨r1, r2, r3, r4, -, -⟩ := Snow.right_iff.1 hrx
              have hrb := runS_bd (sysr_of HR.out) (wet := wet) (show 0 ≤ sec by have := HSEC.out; omega) HSEC.out.2 (S.fa j 0) S.ng
              obtain ⟨x2, ex2⟩ : ∃ x, x = S.fa j 2 := ⟨_, rfl⟩
              obtain ⟨x3, ex3⟩ : ∃ x, x = S.fa j 3 := ⟨_, rfl⟩
              obtain ⟨x4, ex4⟩ : ∃ x, x = S.fa j 4 := ⟨_, rfl⟩
              obtain ⟨x1, ex1⟩ : ∃ x, x = S.fa j 1 := ⟨_, rfl⟩
              obtain ⟨z2, ez2⟩ : ∃ x, x = faS S wet sec S.na j 2 := ⟨_, rfl⟩
              obtain ⟨z3, ez3⟩ : ∃ x, x = faS S wet sec S.na j 3 := ⟨_, rfl⟩
              obtain ⟨z4, ez4⟩ : ∃ x, x = faS S wet sec S.na j 4 := ⟨_, rfl⟩
              obtain ⟨M, eM⟩ : ∃ x, x = mmS S wet sec j := ⟨_, rfl⟩
              obtain ⟨Y, eY⟩ : ∃ x, x = runS S wet sec (S.fa j 0) S.ng := ⟨_, rfl⟩
              rw [← ex2] at c2
              rw [← ex3] at c3
              rw [← ex4] at c4
              rw [← ex1] at c1 a1 a2
              rw [← ez2] at y2
              rw [← ez3] at y3
              rw [← ez4] at y4
              rw [← ex2, ← ex3, ← ex4] at hw1
              rw [← ez2, ← ez3, ← ez4, ← ex2, ← ex3, ← eM] at hw2
              rw [← eM] at hm0 hm1
              rw [← eM, ← ex1] at hq0
              rw [← eM, ← ex1, ← eY] at hq1 hq2
              rw [← ex2] at r1 r2
              rw [← ex3] at r3 r4
              rw [← eY] at hrb
              have r0' : wp.cell? ⟨w5.heap.size, j, none⟩ = some (.int .i64 Y) := r0.trans (by rw [eY])
              clear r0 ex2 ex3 ex4 ex1 ez2 ez3 ez4 eM eY e2 e3 hry hrx hcp hcq
              obtain ⟨A, eA⟩ : ∃ x, x = x2 + x3 := ⟨_, rfl⟩
              obtain ⟨Bv, eB⟩ : ∃ x, x = x2 + (x3 + M) := ⟨_, rfl⟩
              rw [← eA] at hw1
              rw [← eB] at hw2
              obtain ⟨Q, eQ⟩ : ∃ x, x = M * x1 := ⟨_, rfl⟩
              rw [← eQ] at hq0 hq1 hq2
              have f1 : decide (Bv < A) = false := decide_eq_false (by omega)
              have f2 : IntKind.i64.wrap (Bv - A) = M := by rw [show Bv - A = M by omega]; exact IntWalk.i64_in _ (by omega)
              have f3 : IntKind.i64.wrap (M * x1) = Q := by rw [← eQ]; exact IntWalk.i64_in _ (by omega)
              have f4 : decide (Y < Q) = false := decide_eq_false (by omega)
              obtain ⟨G, eG⟩ : ∃ x, x = Y - Q := ⟨_, rfl⟩
              have f5 : IntKind.i64.wrap (Y - Q) = G := by rw [← eG]; exact IntWalk.i64_in _ (by omega)
              have hGM : x1 ≤ G → M = 1000 := fun h => hq2 (by omega)
              have HF := Lib.hid (And.intro f1 (And.intro f2 (And.intro f3 (And.intro f4 f5))))
              have HGM := Lib.hid hGM
              have HJN := Lib.hid hjn
              have HC1 : Hid (∀ W, Calls Try.prog 15 #[pk x2 x3 x4] W fun e w' => e = .returned (.tuple #[.int .i64 A, .int .i64 0]) ∧ Below W.heap.size W w') := Lib.hid fun W => by
                have h := sn_Water_any x2 x3 x4 W
                rw [hw1] at h
                exact h
              have HC2 : Hid (∀ W, Calls Try.prog 15 #[pk z2 z3 z4] W fun e w' => e = .returned (.tuple #[.int .i64 Bv, .int .i64 0]) ∧ Below W.heap.size W w') := Lib.hid fun W => by
                have h := sn_Water_any z2 z3 z4 W
                rw [hw2] at h
                exact h
              have HPA := Lib.hid hpa
              have HHB := Lib.hid hBe
              have HZB := Lib.hid (And.intro hbp hbq)
              have HYY := Lib.hid (And.intro y2 (And.intro y3 y4))
              have HC1C := Lib.hid c1
              have HRR := Lib.hid r0'
              clear hq0 hq1 hq2 hGM hm0 hm1 eQ eG eA eB hw1 hw2 f1 f2 f3 f4 f5 r1 r2 r3 r4 a1 a2 hrb hjn y2 y3 y4 c1 r0' hbp hbq
              rw [hpa] at b5
              go_wp2_with fail
              refine (HC1.out _).mono ?_
              rintro e w6 ⟨rfl, hb6⟩
              have HT6 := Lib.hid (HT.out.below hb6)
              have HT6T := Lib.hid (HTb.out.below HT6.out.be)
              have u5 := HT6T.out.c5
              rw [HHB.out] at u5
              have y2 := (hb6.cell (p := ⟨bq, offq + j * 5 + 2, none⟩) HZB.out.2).trans HYY.out.1
              have y3 := (hb6.cell (p := ⟨bq, offq + j * 5 + 3, none⟩) HZB.out.2).trans HYY.out.2.1
              have y4 := (hb6.cell (p := ⟨bq, offq + j * 5 + 4, none⟩) HZB.out.2).trans HYY.out.2.2
              have HB6 := Lib.hid hb6
              clear hb6 b5 c2 c3 c4 HC1 hpa hBe
              go_wp2_with fail
              refine (HC2.out _).mono ?_
              rintro e w7 ⟨rfl, hb7⟩
              have HT7 := Lib.hid (HT6.out.below hb7)
              have HX7 := Lib.hid (HXb.out.below HT7.out.be)
              have b5 := HX7.out.c5
              rw [HPA.out] at b5
              have c1 := (hb7.cell (p := ⟨bp, offp + j * 5 + 1, none⟩) (Nat.lt_of_lt_of_le HZB.out.1 HB6.out.size)).trans ((HB6.out.cell (p := ⟨bp, offp + j * 5 + 1, none⟩) HZB.out.1).trans HC1C.out)
              have r0 := (hb7.cell (p := ⟨w5.heap.size, j, none⟩) HT6.out.z).trans ((HB6.out.cell (p := ⟨w5.heap.size, j, none⟩) HT.out.z).trans HRR.out)
              obtain ⟨f1, f2, f3, f4, f5⟩ := HF.out
              clear hb7 u5 y2 y3 y4 HC2 HT6 HT6T HT HXq HF
              by_cases hg : x1 ≤ G
              · have g1 : decide (x1 ≤ G) = true := decide_eq_true hg
                have hM := HGM.out hg
                have g2 : decide (M < 1000) = false := decide_eq_false (by omega)
                clear hg hM
                go_wp2_with fail
                go_quiet (fail)
                go_wp2
                go_roundw
                case rel => exact ⟨j + 1, HJN.out, by go_num, Lib.hid (HT7.out.below (Joins.below_draws _ _ _))⟩
                case measure => have := HJN.out; simp [intOf]; omega
              · have g1 : decide (x1 ≤ G) = false := decide_eq_false hg
                clear hg
                go_wp2_with fail
                go_quiet (fail)
                go_wp2
                go_roundw
                case rel => exact ⟨j + 1, HJN.out, by go_num, Lib.hid (HT7.out.below (Joins.below_draws _ _ _))⟩
                case measure => have := HJN.out; simp [intOf]; omega
            · have hjni : decide ((j : Int) < (S.na : Int)) = false := decide_eq_false (by omega)
              have HXq := HXq
              have HTq := Lib.hid (HTb.out.below HT.out.be)
              have HBw := Lib.hid (thru HBb.out HT.out.be HBb.out.size)
              have HMw := Lib.hid (HMb.out.below HT.out.be)
              have HCw : Hid (Rd wp C ch) := Lib.hid (HCH.out.below HBw.out)
              have t11 := HTq.out.c11
              have b11 := HXq.out.c11
              have b7 := HXq.out.c7
              obtain ⟨hP0, hPF⟩ := top_pow HR.out HP.out
              have hl := HR.out.nu.l
              obtain ⟨N, eN⟩ : ∃ x, x = P * sec := ⟨_, rfl⟩
              have hN0 : 0 ≤ N := by rw [eN]; exact Int.mul_nonneg hP0 (by omega)
              have hN1 : N ≤ 1000000000 * 3600 := by rw [eN]; exact Int.mul_le_mul (by have := HPL.out; omega) HSEC.out.2 (by omega) (by omega)
              have d1 : en - S.en = N := by have := HEN.out; omega
              have d2 : N / sec = P := by rw [eN]; exact Int.mul_ediv_cancel _ (by omega)
              have d3 : N % sec = 0 := by rw [eN]; exact Int.mul_emod_left _ _
              have d4 : N.tdiv sec = P := by rw [eN]; exact Int.mul_tdiv_cancel _ (by omega)
              have d5 : N.tmod sec = 0 := by rw [eN]; exact Int.mul_tmod_left _ _
              have d6 : decide (S.l < P) = false := decide_eq_false (by have := HPL.out; omega)
              have d7 : wrap64 N = N := IntWalk.wrap64_in _ (by omega)
              have d8 : wrap64 P = P := IntWalk.wrap64_in _ (by have := HPL.out; omega)
              have d9 : (sec == 0) = false := beq_eq_false_iff_ne.2 (by omega)
              obtain ⟨X1, eX1⟩ : ∃ x, x = chS S.fu 1 ch S.nu := ⟨_, rfl⟩
              obtain ⟨X2, eX2⟩ : ∃ x, x = chS S.fu 2 ch S.nu := ⟨_, rfl⟩
              obtain ⟨G, eG⟩ : ∃ x, x = gPow S.K S.nk S.fg S.ng := ⟨_, rfl⟩
              have hge : F ≤ X1 → P ≤ X2 + G := fun h => by rw [eX2, eG]; exact hPF ch (by rw [← eX1, ← HV3.out.2.1]; exact h)
              have hx2 := chS_bd (ch := ch) (n := S.nu) (M := 100000000) (sysr_of HR.out).u2
              rw [← eX2] at hx2
              have hgb := gPow_bd (g := S.fg) (sysr_of HR.out).pw S.ng
              rw [← eG] at hgb
              obtain ⟨Zs, eZ⟩ : ∃ x, x = X2 + G := ⟨_, rfl⟩
              have d10 : IntKind.i64.wrap (X2 + G) = Zs := by rw [← eZ]; exact IntWalk.i64_in _ (by have := HZ.out.nu; have := HZ.out.ng; omega)
              rw [← eZ] at hge
              have HFL : Hid (∀ W, Below wp.heap.size wp W → Calls Try.prog 16 #[.slice S.pu S.nu S.cu, .slice C ch.length cc] W fun e w' => e = .returned (.int .i64 X1) ∧ Below W.heap.size W w') := Lib.hid fun W hW => by
                rw [eX1]
                exact pflow_any S.nu S.cu ch.length cc S.fu ch S.pu C W (HMw.out.below hW).pu (HCw.out.below hW) HZ.out.nu (by have := HS.out.ch; omega) rfl (sysr_of HR.out).u1
              have HPW : Hid (∀ W, Below wp.heap.size wp W → Calls Try.prog 17 #[.slice S.pu S.nu S.cu, .slice C ch.length cc] W fun e w' => e = .returned (.int .i64 X2) ∧ Below W.heap.size W w') := Lib.hid fun W hW => by
                rw [eX2]
                exact ppow_any S.nu S.cu ch.length cc S.fu ch S.pu C W (HMw.out.below hW).pu (HCw.out.below hW) HZ.out.nu (by have := HS.out.ch; omega) rfl (sysr_of HR.out).u2
              have HGP : Hid (∀ W, Below wp.heap.size wp W → Calls Try.prog 18 #[.slice S.ki S.nk S.ck, .slice S.gu S.ng S.cg] W fun e w' => e = .returned (.int .i64 G) ∧ Below W.heap.size W w') := Lib.hid fun W hW => by
                rw [eG]
                exact gunpow_any S.nk S.ng S.ck S.cg S.K S.fg S.ki S.gu W (HMw.out.below hW).ki (HMw.out.below hW).gu (by have := HZ.out.nk; omega) (by have := HZ.out.ng; omega) (sysr_of HR.out).pw
              have HGE := Lib.hid hge
              clear hge hx2 hgb eX1 eX2 eG eZ eN hPF hl hP0
              go_wp2_with fail
              rw [d8]
              clear t11 b11 b7 d1 d2 d3 d4 d5 d6 d7 d8 d9 hN0 hN1 hjni hjn hj
              have kz := HXq.out.z
              have k1 := HXq.out.c1
              have k3 := HXq.out.c3
              have k4 := HXq.out.c4
              by_cases hx : F ≤ X1
              · have h1 : decide (X1 < F) = false := decide_eq_false (by omega)
                have h2 : decide (P ≤ Zs) = true := decide_eq_true (HGE.out hx)
                clear hx
                go_region_held3 (fun w' => w'.cell? ⟨w.heap.size, 1, none⟩ = some (.slice S.pu S.nu S.cu) ∧ w'.cell? ⟨w.heap.size, 3, none⟩ = some (.slice S.ki S.nk S.ck) ∧ w'.cell? ⟨w.heap.size, 4, none⟩ = some (.slice S.gu S.ng S.cg)) (first | with_reducible exact ⟨k1, k3, k4⟩ | with_reducible exact ⟨m1, m3, m4⟩ | with_reducible exact ⟨q1, q3, q4⟩ | with_reducible exact ⟨r1, r3, r4⟩ | with_reducible exact ⟨s1, s3, s4⟩ | with_reducible exact ⟨u1, u3, u4⟩ | (simp [go_sem, k1, k3, k4]; done)) (first
                  | (go_at_call 16; (with_reducible refine (HFL.out _ (by first | exact Below.refl _ _ | exact (Below.refl _ _).drew)).mono ?_); rintro e v3 ⟨rfl, hb3⟩; have z3 := Nat.lt_of_lt_of_le kz hb3.size; have m1 := (hb3.cell (p := ⟨w.heap.size, 1, none⟩) kz).trans k1; have m3 := (hb3.cell (p := ⟨w.heap.size, 3, none⟩) kz).trans k3; have m4 := (hb3.cell (p := ⟨w.heap.size, 4, none⟩) kz).trans k4; have b3 : Below wp.heap.size wp v3 := thru (B := wp.heap.size) (by first | exact Below.refl _ _ | exact (Below.refl _ _).drew) hb3 (Nat.le_refl _))
                  | (go_at_call 17; (with_reducible refine (HPW.out v3 b3).mono ?_); rintro e v4 ⟨rfl, hb4⟩; have z4 := Nat.lt_of_lt_of_le z3 hb4.size; have q1 := (hb4.cell (p := ⟨w.heap.size, 1, none⟩) z3).trans m1; have q3 := (hb4.cell (p := ⟨w.heap.size, 3, none⟩) z3).trans m3; have q4 := (hb4.cell (p := ⟨w.heap.size, 4, none⟩) z3).trans m4; have b4 : Below wp.heap.size wp v4 := thru (B := wp.heap.size) b3 hb4 b3.size)
                  | (go_at_call 18; (with_reducible refine (HGP.out v4 b4).mono ?_); rintro e v5 ⟨rfl, hb5⟩; have r1 := (hb5.cell (p := ⟨w.heap.size, 1, none⟩) z4).trans q1; have r3 := (hb5.cell (p := ⟨w.heap.size, 3, none⟩) z4).trans q3; have r4 := (hb5.cell (p := ⟨w.heap.size, 4, none⟩) z4).trans q4; have b5 : Below wp.heap.size wp v5 := thru (B := wp.heap.size) b4 hb5 b4.size)
                  | (go_at_call 18; (with_reducible refine (HGP.out v3 b3).mono ?_); rintro e v6 ⟨rfl, hb6⟩; have z6 := Nat.lt_of_lt_of_le z3 hb6.size; have s1 := (hb6.cell (p := ⟨w.heap.size, 1, none⟩) z3).trans m1; have s3 := (hb6.cell (p := ⟨w.heap.size, 3, none⟩) z3).trans m3; have s4 := (hb6.cell (p := ⟨w.heap.size, 4, none⟩) z3).trans m4; have b6 : Below wp.heap.size wp v6 := thru (B := wp.heap.size) b3 hb6 b3.size)
                  | (go_at_call 17; (with_reducible refine (HPW.out v6 b6).mono ?_); rintro e v7 ⟨rfl, hb7⟩; have u1 := (hb7.cell (p := ⟨w.heap.size, 1, none⟩) z6).trans s1; have u3 := (hb7.cell (p := ⟨w.heap.size, 3, none⟩) z6).trans s3; have u4 := (hb7.cell (p := ⟨w.heap.size, 4, none⟩) z6).trans s4; have b5 : Below wp.heap.size wp v7 := thru (B := wp.heap.size) b6 hb7 b6.size))
                all_goals
                  go_wp2_with fail
                  go_ret
                  exact ⟨rfl, HBw.out.trans (b5.mono HBw.out.size)⟩
              · have h1 : decide (X1 < F) = true := decide_eq_true (by omega)
                clear hx k3 k4
                refine wp_region_held_drew (S := fun w' => w'.cell? ⟨w.heap.size, 1, none⟩ = some (.slice S.pu S.nu S.cu)) (by kernel_rfl) ?_ (fun hHeld => ?_)
                · (try dsimp only); exact k1
                refine wpAnyH_take (i := 0) (oi := ?oi0) (v := ?v0) ?hi0 ?ha0 ?hb0 ?hc0 ?hq0 (Or.inl ⟨?hw0, ?hy0⟩) (by assumption) ?rest0
                case hi0 => simp only [List.getElem?_toArray, List.getElem?_cons_zero]; rfl
                case ha0 => kernel_rfl
                case hb0 => kernel_rfl
                case hc0 => kernel_rfl
                case hq0 => exact fun _ _ _ h => h
                case hw0 => kernel_rfl
                case hy0 => intro w hSw; (try dsimp only at hSw); go_simp; (try with_reducible rfl)
                (try simp only [Act.put, List.setIfInBounds_toArray, List.set_cons_zero, List.set_cons_succ])
                refine wpAnyH_take (i := 1) (oi := ?oi1) (v := ?v1) ?hi1 ?ha1 ?hb1 ?hc1 ?hq1 (Or.inl ⟨?hw1, ?hy1⟩) (by assumption) ?rest1
                case hi1 => simp only [List.getElem?_toArray, List.getElem?_cons_succ, List.getElem?_cons_zero]; rfl
                case ha1 => kernel_rfl
                case hb1 => kernel_rfl
                case hc1 => kernel_rfl
                case hq1 => exact fun _ _ _ h => h
                case hw1 => kernel_rfl
                case hy1 => intro w hSw; (try dsimp only at hSw); go_simp; (try with_reducible rfl)
                (try simp only [Act.put, List.setIfInBounds_toArray, List.set_cons_zero, List.set_cons_succ])
                refine wpAnyH_take (i := 2) (oi := ?oi2) (v := ?v2) ?hi2 ?ha2 ?hb2 ?hc2 ?hq2 (Or.inl ⟨?hw2, ?hy2⟩) (by assumption) ?rest2
                case hi2 => simp only [List.getElem?_toArray, List.getElem?_cons_succ, List.getElem?_cons_zero]; rfl
                case ha2 => kernel_rfl
                case hb2 => kernel_rfl
                case hc2 => kernel_rfl
                case hq2 => exact fun _ _ _ h => h
                case hw2 => kernel_rfl
                case hy2 => intro w hSw; (try dsimp only at hSw); go_simp; (try with_reducible rfl)
                (try simp only [Act.put, List.setIfInBounds_toArray, List.set_cons_zero, List.set_cons_succ])
                refine wpAnyH_take (i := 4) (oi := ?oi4) (v := ?v4) ?hi4 ?ha4 ?hb4 ?hc4 ?hq4 (Or.inl ⟨?hw4, ?hy4⟩) (by assumption) ?rest4
                case hi4 => simp only [List.getElem?_toArray, List.getElem?_cons_succ, List.getElem?_cons_zero]; rfl
                case ha4 => kernel_rfl
                case hb4 => kernel_rfl
                case hc4 => kernel_rfl
                case hq4 => exact fun _ _ _ h => h
                case hw4 => kernel_rfl
                case hy4 => intro w hSw; (try dsimp only at hSw); go_simp; (try with_reducible rfl)
                (try simp only [Act.put, List.setIfInBounds_toArray, List.set_cons_zero, List.set_cons_succ])
                refine wpAnyH_ready (rs := [3]) (by kernel_rfl) (by simp) ?_
                refine AllReadyH.cons rfl (fun K hK => ?_) AllReadyH.nil
                go_simp
                go_at_call 16; (with_reducible refine (HFL.out _ (by first | exact Below.refl _ _ | exact (Below.refl _ _).drew)).mono ?_); rintro e v3 ⟨rfl, hb3⟩; have z3 := Nat.lt_of_lt_of_le kz hb3.size; have m1 := (hb3.cell (p := ⟨w.heap.size, 1, none⟩) kz).trans k1; have b3 : Below wp.heap.size wp v3 := thru (B := wp.heap.size) (by first | exact Below.refl _ _ | exact (Below.refl _ _).drew) hb3 (Nat.le_refl _)
                go_wp2_with fail
                refine hK.out _ _ ?_ (fun hHeld => ?_)
                · (try dsimp only); exact m1
                clear hK K
                (try simp only [Act.put, List.setIfInBounds_toArray, List.set_cons_zero, List.set_cons_succ])
                refine wpAnyH_take (i := 5) (oi := ?oi5) (v := ?v5) ?hi5 ?ha5 ?hb5 ?hc5 ?hq5 (Or.inl ⟨?hw5, ?hy5⟩) (by assumption) ?rest5
                case hi5 => simp only [List.getElem?_toArray, List.getElem?_cons_succ, List.getElem?_cons_zero]; rfl
                case ha5 => kernel_rfl
                case hb5 => kernel_rfl
                case hc5 => kernel_rfl
                case hq5 => exact fun _ _ _ h => h
                case hw5 => kernel_rfl
                case hy5 => intro w hSw; (try dsimp only at hSw); go_simp; (try with_reducible rfl)
                (try simp only [Act.put, List.setIfInBounds_toArray, List.set_cons_zero, List.set_cons_succ])
                refine wpAnyH_take (i := 6) (oi := ?oi6) (v := ?v6) ?hi6 ?ha6 ?hb6 ?hc6 ?hq6 (Or.inl ⟨?hw6, ?hy6⟩) (by assumption) ?rest6
                case hi6 => simp only [List.getElem?_toArray, List.getElem?_cons_succ, List.getElem?_cons_zero]; rfl
                case ha6 => kernel_rfl
                case hb6 => kernel_rfl
                case hc6 => kernel_rfl
                case hq6 => exact fun _ _ _ h => h
                case hw6 => kernel_rfl
                case hy6 => intro w hSw; (try dsimp only at hSw); go_simp; (try with_reducible rfl)
                (try simp only [Act.put, List.setIfInBounds_toArray, List.set_cons_zero, List.set_cons_succ])
                refine wpAnyH_take (i := 7) (oi := ?oi7) (v := undef) ?hi7 ?ha7 ?hb7 ?hc7 ?hq7 (Or.inr ⟨?hw7, rfl⟩) (by assumption) ?rest7
                case hi7 => simp only [List.getElem?_toArray, List.getElem?_cons_succ, List.getElem?_cons_zero]; rfl
                case ha7 => kernel_rfl
                case hb7 => kernel_rfl
                case hc7 => kernel_rfl
                case hq7 => exact fun _ _ _ h => h
                case hw7 => kernel_rfl
                (try simp only [Act.put, List.setIfInBounds_toArray, List.set_cons_zero, List.set_cons_succ])
                refine wpAnyH_take (i := 8) (oi := ?oi8) (v := undef) ?hi8 ?ha8 ?hb8 ?hc8 ?hq8 (Or.inr ⟨?hw8, rfl⟩) (by assumption) ?rest8
                case hi8 => simp only [List.getElem?_toArray, List.getElem?_cons_succ, List.getElem?_cons_zero]; rfl
                case ha8 => kernel_rfl
                case hb8 => kernel_rfl
                case hc8 => kernel_rfl
                case hq8 => exact fun _ _ _ h => h
                case hw8 => kernel_rfl
                (try simp only [Act.put, List.setIfInBounds_toArray, List.set_cons_zero, List.set_cons_succ])
                refine wpAnyH_take (i := 9) (oi := ?oi9) (v := undef) ?hi9 ?ha9 ?hb9 ?hc9 ?hq9 (Or.inr ⟨?hw9, rfl⟩) (by assumption) ?rest9
                case hi9 => simp only [List.getElem?_toArray, List.getElem?_cons_succ, List.getElem?_cons_zero]; rfl
                case ha9 => kernel_rfl
                case hb9 => kernel_rfl
                case hc9 => kernel_rfl
                case hq9 => exact fun _ _ _ h => h
                case hw9 => kernel_rfl
                (try simp only [Act.put, List.setIfInBounds_toArray, List.set_cons_zero, List.set_cons_succ])
                refine wpAnyH_take (i := 10) (oi := ?oi10) (v := undef) ?hi10 ?ha10 ?hb10 ?hc10 ?hq10 (Or.inr ⟨?hw10, rfl⟩) (by assumption) ?rest10
                case hi10 => simp only [List.getElem?_toArray, List.getElem?_cons_succ, List.getElem?_cons_zero]; rfl
                case ha10 => kernel_rfl
                case hb10 => kernel_rfl
                case hc10 => kernel_rfl
                case hq10 => exact fun _ _ _ h => h
                case hw10 => kernel_rfl
                (try simp only [Act.put, List.setIfInBounds_toArray, List.set_cons_zero, List.set_cons_succ])
                refine wpAnyH_take (i := 11) (oi := ?oi11) (v := undef) ?hi11 ?ha11 ?hb11 ?hc11 ?hq11 (Or.inr ⟨?hw11, rfl⟩) (by assumption) ?rest11
                case hi11 => simp only [List.getElem?_toArray, List.getElem?_cons_succ, List.getElem?_cons_zero]; rfl
                case ha11 => kernel_rfl
                case hb11 => kernel_rfl
                case hc11 => kernel_rfl
                case hq11 => exact fun _ _ _ h => h
                case hw11 => kernel_rfl
                (try simp only [Act.put, List.setIfInBounds_toArray, List.set_cons_zero, List.set_cons_succ])
                refine wpAnyH_take (i := 12) (oi := ?oi12) (v := undef) ?hi12 ?ha12 ?hb12 ?hc12 ?hq12 (Or.inr ⟨?hw12, rfl⟩) (by assumption) ?rest12
                case hi12 => simp only [List.getElem?_toArray, List.getElem?_cons_succ, List.getElem?_cons_zero]; rfl
                case ha12 => kernel_rfl
                case hb12 => kernel_rfl
                case hc12 => kernel_rfl
                case hq12 => exact fun _ _ _ h => h
                case hw12 => kernel_rfl
                (try simp only [Act.put, List.setIfInBounds_toArray, List.set_cons_zero, List.set_cons_succ])
                refine wpAnyH_take (i := 13) (oi := ?oi13) (v := undef) ?hi13 ?ha13 ?hb13 ?hc13 ?hq13 (Or.inr ⟨?hw13, rfl⟩) (by assumption) ?rest13
                case hi13 => simp only [List.getElem?_toArray, List.getElem?_cons_succ, List.getElem?_cons_zero]; rfl
                case ha13 => kernel_rfl
                case hb13 => kernel_rfl
                case hc13 => kernel_rfl
                case hq13 => exact fun _ _ _ h => h
                case hw13 => kernel_rfl
                (try simp only [Act.put, List.setIfInBounds_toArray, List.set_cons_zero, List.set_cons_succ])
                refine wpAnyH_take (i := 14) (oi := ?oi14) (v := undef) ?hi14 ?ha14 ?hb14 ?hc14 ?hq14 (Or.inr ⟨?hw14, rfl⟩) (by assumption) ?rest14
                case hi14 => simp only [List.getElem?_toArray, List.getElem?_cons_succ, List.getElem?_cons_zero]; rfl
                case ha14 => kernel_rfl
                case hb14 => kernel_rfl
                case hc14 => kernel_rfl
                case hq14 => exact fun _ _ _ h => h
                case hw14 => kernel_rfl
                (try simp only [Act.put, List.setIfInBounds_toArray, List.set_cons_zero, List.set_cons_succ])
                refine wpAnyH_take (i := 15) (oi := ?oi15) (v := undef) ?hi15 ?ha15 ?hb15 ?hc15 ?hq15 (Or.inr ⟨?hw15, rfl⟩) (by assumption) ?rest15
                case hi15 => simp only [List.getElem?_toArray, List.getElem?_cons_succ, List.getElem?_cons_zero]; rfl
                case ha15 => kernel_rfl
                case hb15 => kernel_rfl
                case hc15 => kernel_rfl
                case hq15 => exact fun _ _ _ h => h
                case hw15 => kernel_rfl
                (try simp only [Act.put, List.setIfInBounds_toArray, List.set_cons_zero, List.set_cons_succ])
                refine wpAnyH_take (i := 16) (oi := ?oi16) (v := undef) ?hi16 ?ha16 ?hb16 ?hc16 ?hq16 (Or.inr ⟨?hw16, rfl⟩) (by assumption) ?rest16
                case hi16 => simp only [List.getElem?_toArray, List.getElem?_cons_succ, List.getElem?_cons_zero]; rfl
                case ha16 => kernel_rfl
                case hb16 => kernel_rfl
                case hc16 => kernel_rfl
                case hq16 => exact fun _ _ _ h => h
                case hw16 => kernel_rfl
                (try simp only [Act.put, List.setIfInBounds_toArray, List.set_cons_zero, List.set_cons_succ])
                refine wpAnyH_take (i := 17) (oi := ?oi17) (v := undef) ?hi17 ?ha17 ?hb17 ?hc17 ?hq17 (Or.inr ⟨?hw17, rfl⟩) (by assumption) ?rest17
                case hi17 => simp only [List.getElem?_toArray, List.getElem?_cons_succ, List.getElem?_cons_zero]; rfl
                case ha17 => kernel_rfl
                case hb17 => kernel_rfl
                case hc17 => kernel_rfl
                case hq17 => exact fun _ _ _ h => h
                case hw17 => kernel_rfl
                (try simp only [Act.put, List.setIfInBounds_toArray, List.set_cons_zero, List.set_cons_succ])
                refine wpAnyH_take (i := 18) (oi := ?oi18) (v := undef) ?hi18 ?ha18 ?hb18 ?hc18 ?hq18 (Or.inr ⟨?hw18, rfl⟩) (by assumption) ?rest18
                case hi18 => simp only [List.getElem?_toArray, List.getElem?_cons_succ, List.getElem?_cons_zero]; rfl
                case ha18 => kernel_rfl
                case hb18 => kernel_rfl
                case hc18 => kernel_rfl
                case hq18 => exact fun _ _ _ h => h
                case hw18 => kernel_rfl
                (try simp only [Act.put, List.setIfInBounds_toArray, List.set_cons_zero, List.set_cons_succ])
                refine wpAnyH_take (i := 19) (oi := ?oi19) (v := ?v19) ?hi19 ?ha19 ?hb19 ?hc19 ?hq19 (Or.inl ⟨?hw19, ?hy19⟩) (by assumption) ?rest19
                case hi19 => simp only [List.getElem?_toArray, List.getElem?_cons_succ, List.getElem?_cons_zero]; rfl
                case ha19 => kernel_rfl
                case hb19 => kernel_rfl
                case hc19 => kernel_rfl
                case hq19 => exact fun _ _ _ h => h
                case hw19 => kernel_rfl
                case hy19 => intro w hSw; (try dsimp only at hSw); go_simp; (try with_reducible rfl)
                (try simp only [Act.put, List.setIfInBounds_toArray, List.set_cons_zero, List.set_cons_succ])
                refine wpAnyH_take (i := 20) (oi := ?oi20) (v := ?v20) ?hi20 ?ha20 ?hb20 ?hc20 ?hq20 (Or.inl ⟨?hw20, ?hy20⟩) (by assumption) ?rest20
                case hi20 => simp only [List.getElem?_toArray, List.getElem?_cons_succ, List.getElem?_cons_zero]; rfl
                case ha20 => kernel_rfl
                case hb20 => kernel_rfl
                case hc20 => kernel_rfl
                case hq20 => exact fun _ _ _ h => h
                case hw20 => kernel_rfl
                case hy20 => intro w hSw; (try dsimp only at hSw); go_simp; (try with_reducible rfl)
                (try simp only [Act.put, List.setIfInBounds_toArray, List.set_cons_zero, List.set_cons_succ])
                refine wpAnyH_done (by kernel_rfl) ?_ _
                go_wp2_with fail
                go_ret
                exact ⟨rfl, HBw.out.trans (b3.mono HBw.out.size)⟩
end Go.Proofs.Ytljhocdbfbjpiaa
