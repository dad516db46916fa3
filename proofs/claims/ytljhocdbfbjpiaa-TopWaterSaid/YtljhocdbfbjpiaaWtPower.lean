/-
  The power that a system takes.
-/
import Derived.Test.YtljhocdbfbjpiaaWtCopy
import Derived.Test.YtljhocdbfbjpiaaWtPumpD
import Derived.Test.YtljhocdbfbjpiaaWtNeeds
import Derived.Test.YtljhocdbfbjpiaaWtCheck
namespace Go.Proofs.Ytljhocdbfbjpiaa
open Go.RowKit

/-- What Right says of pumps and kinds. -/
structure SysR (S : Sys) : Prop where
  u1 : ∀ i, i < S.nu → 0 ≤ S.fu i 1 ∧ S.fu i 1 ≤ 100000000
  u2 : ∀ i, i < S.nu → 0 ≤ S.fu i 2 ∧ S.fu i 2 ≤ 100000000
  pw : ∀ i, i < S.nk → 0 ≤ S.K.pw i ∧ S.K.pw i ≤ 1000000
  gr : ∀ i, i < S.ng → 1 ≤ S.fg i 2 ∧ S.fg i 2 ≤ 9999
  out : ∀ x wet, 0 ≤ outV (kPs S.K (kFirst S.K x S.nk)) wet ∧ outV (kPs S.K (kFirst S.K x S.nk)) wet ≤ 10000
abbrev drS (S : Sys) (wet : Int) : List (Int × Int) := drL S.K S.nk S.fg wet S.ng
theorem drL_all {K : KK} {m : Nat} {g : Nat → Nat → Int} {wet : Int} (h : ∀ x wet, 0 ≤ outV (kPs K (kFirst K x m)) wet ∧ outV (kPs K (kFirst K x m)) wet ≤ 10000) : ∀ n, ∀ p ∈ drL K m g wet n, 0 ≤ p.2 ∧ p.2 ≤ 10000
  | 0, p, hp => by simp [drL] at hp
  | n + 1, p, hp => by
    rw [drL] at hp
    split at hp
    · rcases List.mem_append.1 hp with hp | hp
      · exact drL_all h n p hp
      · simp at hp
        subst hp
        exact h _ _
    · exact drL_all h n p hp
theorem drL_py {K : KK} {m : Nat} {g : Nat → Nat → Int} {wet : Int} (h : ∀ x wet, 0 ≤ outV (kPs K (kFirst K x m)) wet ∧ outV (kPs K (kFirst K x m)) wet ≤ 10000) {n i : Nat} (hi : i < (drL K m g wet n).length) : 0 ≤ Fix.py (drL K m g wet n) i ∧ Fix.py (drL K m g wet n) i ≤ 10000 := by
  have hm : (drL K m g wet n)[i] ∈ drL K m g wet n := List.getElem_mem hi
  have := drL_all h n _ hm
  simpa [Fix.py, hi] using this
abbrev flowS (S : Sys) (wet : Int) : Int := sumN (Fix.py (drS S wet)) (drS S wet).length
/-- The power, or the error. -/
def PowR (S : Sys) (wet : Int) (P E : Int) : Prop :=
  (E = 0 ∧ ∃ Pb, BestP S.nu S.fu (flowS S wet) Pb 0 ∧ P = Pb + gPow S.K S.nk S.fg S.ng) ∨ (E = 9 ∧ BestP S.nu S.fu (flowS S wet) 0 9)
theorem PowR.uniq {S : Sys} {wet P Q : Int} (h1 : PowR S wet P 0) (h2 : PowR S wet Q 0) : P = Q := by
  rcases h1 with ⟨_, Pb, hb, rfl⟩ | ⟨h, _⟩
  · rcases h2 with ⟨_, Qb, hc, rfl⟩ | ⟨h, _⟩
    · rcases hb with ⟨_, ⟨ch, h3, h4⟩, h5⟩ | ⟨h, _⟩
      · rcases hc with ⟨_, ⟨ch', h3', h4'⟩, h5'⟩ | ⟨h, _⟩
        · have a := h5 ch' h3'
          have b := h5' ch h3
          omega
        · cases h
      · cases h
    · cases h
  · cases h
def PowerPost (S : Sys) (wet : Int) (w : World) (e : Ending) (w' : World) : Prop :=
  (∃ P E, e = .returned (.tuple #[.int .i64 P, .int .i64 E]) ∧ PowR S wet P E ∧ 0 ≤ P ∧ P ≤ 10000000000) ∧ Below w.heap.size w w'
set_option maxRecDepth 40000 in
set_option maxHeartbeats 8000000 in
theorem power_any (S : Sys) (wet : Int) (w : World) (hM : SysM w S) (hZ : SysZ S) (hR : SysR S) :
    Calls Try.prog 36 #[sysS S, .int .i64 wet] w (PowerPost S wet w) := by
  have HM := Lib.hid hM
  have HZ := Lib.hid hZ
  have HSR := Lib.hid hR
  have hb0 : Below w.heap.size w (w.alloc (.cells #[.slice S.po S.np S.cp, .slice S.pu S.nu S.cu, .slice S.pi S.ni S.ci, .slice S.ki S.nk S.ck, .slice S.gu S.ng S.cg, .slice S.pa S.na S.ca, .int .i64 S.p, .int .i64 S.l, .int .i64 S.t, .int .i64 S.wa, .int .i64 S.lo, .int .i64 S.en, .int .i64 S.inn] 41)) := Joins.below_alloc1 _ _
  have hx0 := BoxAt.mk0 w (.slice S.po S.np S.cp) (.slice S.pu S.nu S.cu) (.slice S.pi S.ni S.ci) (.slice S.ki S.nk S.ck) (.slice S.gu S.ng S.cg) (.slice S.pa S.na S.ca) S.p S.l S.t S.wa S.lo S.en S.inn
  have HD := Lib.hid (draws_any S.nk S.ng S.ck S.cg S.K S.fg wet S.ki S.gu _ (hM.below hb0).ki (hM.below hb0).gu (by have := hZ.nk; omega) (by have := hZ.ng; omega))
  have HX0 := Lib.hid hx0
  have HB0 := Lib.hid hb0
  have HLEN := Lib.hid (drL_len S.K S.nk S.fg wet S.ng)
  clear hM hZ hR hb0 hx0
  go_enter Try.func36, Try.ntmps36
  go_wp2_with fail
  refine HD.out.mono ?_
  rintro e w1 ⟨⟨D, c, rfl, hD⟩, hb1⟩
  have HDR := Lib.hid hD
  have HX1 := Lib.hid (HX0.out.below hb1)
  have HB1 := Lib.hid (thru HB0.out hb1 HB0.out.size)
  have hlen8 : (drL S.K S.nk S.fg wet S.ng).length ≤ 8 := by have := HLEN.out; have := HZ.out.ng; omega
  clear hD hb1 HX0 HB0 HD
  go_wp2
  go_loopw [6, 19] (fun t i wr => ∃ k : Nat, k ≤ (drL S.K S.nk S.fg wet S.ng).length ∧ i = .int .i64 k ∧ t = .int .i64 (sumN (Fix.py (drS S wet)) k) ∧ Hid (BoxAt wr w.heap.size (.slice S.po S.np S.cp) (.slice S.pu S.nu S.cu) (.slice S.pi S.ni S.ci) (.slice S.ki S.nk S.ck) (.slice S.gu S.ng S.cg) (.slice S.pa S.na S.ca) S.p S.l S.t S.wa S.lo S.en S.inn) ∧ Hid (RdP wr D (drS S wet)) ∧ Hid (Below w.heap.size w wr)) (fun _ i _ => (drL S.K S.nk S.fg wet S.ng).length - (intOf i).toNat)
  case atStart => exact ⟨0, Nat.zero_le _, rfl, rfl, HX1, HDR, HB1⟩
  case round =>
    clear HX1 HDR HB1
    obtain ⟨k, hk, rfl, rfl, HX, HDR, HB⟩ := hrel
    by_cases hlt : k < (drL S.K S.nk S.fg wet S.ng).length
    · have hlti : (k : Int) < ((drL S.K S.nk S.fg wet S.ng).length : Int) := by omega
      obtain ⟨b, off, rfl, hbz, hc⟩ := HDR.out (by show 0 < (drL S.K S.nk S.fg wet S.ng).length; omega)
      obtain ⟨c0, c1⟩ := hc k hlt
      have hy := drL_py HSR.out.out hlt
      have hs := sumN_bd (f := Fix.py (drS S wet)) (n := k) (lo := 0) (hi := 10000) fun i hi => drL_py HSR.out.out (by omega)
      obtain ⟨T, hT⟩ : ∃ T, T = sumN (Fix.py (drS S wet)) k := ⟨_, rfl⟩
      obtain ⟨y, hye⟩ : ∃ y, y = Fix.py (drS S wet) k := ⟨_, rfl⟩
      have hst : sumN (Fix.py (drS S wet)) (k + 1) = T + y := by rw [hT, hye]; rfl
      have hy2 : 0 ≤ y ∧ y ≤ 10000 := by rw [hye]; exact hy
      rw [← hye] at c1
      rw [← hT] at hs ⊢
      obtain ⟨x, hx⟩ : ∃ x, x = Fix.px (drS S wet) k := ⟨_, rfl⟩
      rw [← hx] at c0
      have hT0 : 0 ≤ T := by omega
      have hT1 : T ≤ 80000 := by omega
      have HST := Lib.hid hst
      have HLT := Lib.hid hlt
      have HDA := Lib.hid (HDR.out.below (Joins.below_alloc1 wr (.cells #[.int .i64 x, .int .i64 y] 53)))
      clear hc hy hs hT hye hx hst hlt hbz
      go_wp2
      go_roundw
      case rel => exact ⟨k + 1, HLT.out, by go_num, by rw [HST.out], Lib.hid (HX.out.below (Joins.below_alloc1 _ _)), HDA, Lib.hid (thru HB.out (Joins.below_alloc1 _ _) HB.out.size)⟩
      case measure => have := HLT.out; simp [intOf]; omega
    · have hlti : decide ((k : Int) < ((drL S.K S.nk S.fg wet S.ng).length : Int)) = false := decide_eq_false (by omega)
      have hfl : flowS S wet = sumN (Fix.py (drS S wet)) k := by show sumN (Fix.py (drS S wet)) (drL S.K S.nk S.fg wet S.ng).length = _; rw [show k = (drL S.K S.nk S.fg wet S.ng).length by omega]
      obtain ⟨F, hF⟩ : ∃ F, F = flowS S wet := ⟨_, rfl⟩
      have hF0 : 0 ≤ F := by
        rw [hF]
        have := sumN_bd (f := Fix.py (drS S wet)) (n := (drS S wet).length) (lo := 0) (hi := 10000) fun i hi => drL_py HSR.out.out hi
        simpa using this.1
      rw [← hfl, ← hF]
      have HF := Lib.hid hF
      have HC := Lib.hid (pumpbest_any S.nu S.cu S.fu F S.pu wr (HM.out.below HB.out).pu HZ.out.nu HSR.out.u1 HSR.out.u2 hF0)
      have b1 := HX.out.c1
      clear hfl hF hF0
      go_wp2_with fail
      refine HC.out.mono ?_
      rintro e w5 ⟨⟨v, P, E, rfl, hbest⟩, hb5⟩
      have HBEST := Lib.hid hbest
      have HX5 := Lib.hid (HX.out.below hb5)
      have HB5 := Lib.hid (thru HB.out hb5 HB.out.size)
      have hPb : 0 ≤ P ∧ P ≤ 800000000 := by
        rcases hbest with ⟨_, ⟨ch, _, rfl⟩, _⟩ | ⟨_, rfl, _⟩
        · have := chS_bd (ch := ch) (n := S.nu) (M := 100000000) HSR.out.u2
          have := HZ.out.nu
          omega
        · omega
      have hE : E = 0 ∨ E = 9 := by
        rcases hbest with ⟨h, _⟩ | ⟨h, _⟩
        · exact .inl h
        · exact .inr h
      clear hbest hb5 b1 HC HX
      rcases hE with rfl | rfl
      · have hg := gPow_bd (g := S.fg) HSR.out.pw S.ng
        have HG := Lib.hid (gunpow_any S.nk S.ng S.ck S.cg S.K S.fg S.ki S.gu w5 (HM.out.below HB5.out).ki (HM.out.below HB5.out).gu (by have := HZ.out.nk; omega) (by have := HZ.out.ng; omega) HSR.out.pw)
        have hg2 : gPow S.K S.nk S.fg S.ng ≤ 8000000 := by have := HZ.out.ng; omega
        have hg1 := hg.1
        obtain ⟨G, hG⟩ : ∃ G, G = gPow S.K S.nk S.fg S.ng := ⟨_, rfl⟩
        rw [← hG] at HG hg1 hg2
        have HGE := Lib.hid hG
        have b3 := HX5.out.c3
        have b4 := HX5.out.c4
        obtain ⟨hP0, hP1⟩ := hPb
        clear hg hG
        go_wp2_with fail
        refine HG.out.mono ?_
        rintro e w6 ⟨rfl, hb6⟩
        have HB6 := Lib.hid (thru HB5.out hb6 HB5.out.size)
        clear hb6 b3 b4
        go_wp2
        go_ret2
        exact ⟨⟨P + G, 0, rfl, .inl ⟨rfl, P, by rw [← HF.out]; exact HBEST.out, by rw [HGE.out]⟩, by omega, by omega⟩, HB6.out⟩
      · clear hPb
        go_wp2
        go_ret2
        exact ⟨⟨0, 9, rfl, .inr ⟨rfl, by rw [← HF.out]; rcases HBEST.out with ⟨h, _⟩ | ⟨_, h1, h2⟩; cases h; exact .inr ⟨rfl, rfl, h2⟩⟩, by omega, by omega⟩, HB5.out⟩
end Go.Proofs.Ytljhocdbfbjpiaa
