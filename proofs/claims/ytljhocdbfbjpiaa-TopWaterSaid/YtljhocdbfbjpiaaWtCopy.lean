/-
  A copy of a system that shares no memory with it.
-/
import Derived.Test.YtljhocdbfbjpiaaWtSys
import Derived.Deep.DeepCutAuto
namespace Go.Proofs.Ytljhocdbfbjpiaa
open Go.RowKit

/-- A row of structs that lies from block lo on, below block hi. -/
def RIU (lo hi : Nat) (w : World) (A : Option Addr) (k n : Nat) (f : Nat → Nat → Int) : Prop :=
  0 < n → ∃ b off, A = some ⟨b, off, none⟩ ∧ lo ≤ b ∧ b < hi ∧ ∀ i, i < n → ∀ j, j < k → w.cell? ⟨b, off + i * k + j, none⟩ = some (.int .i64 (f i j))
theorem RIU.keep {lo hi T : Nat} {w w' : World} {A : Option Addr} {k n : Nat} {f : Nat → Nat → Int} (h : RIU lo hi w A k n f) (hb : Below T w w') (hT : hi ≤ T) : RIU lo hi w' A k n f := fun hp => by
  obtain ⟨b, off, e, h0, h1, h2⟩ := h hp
  exact ⟨b, off, e, h0, h1, fun i hi' j hj => (hb.cell (p := ⟨b, off + i * k + j, none⟩) (Nat.lt_of_lt_of_le h1 hT)).trans (h2 i hi' j hj)⟩
theorem RIU.set {lo hi : Nat} {w : World} {A : Option Addr} {k n : Nat} {f : Nat → Nat → Int} (h : RIU lo hi w A k n f) {p : Addr} (hp : p.block < lo) (v : Value) : RIU lo hi (w.setCell p v) A k n f := fun hn => by
  obtain ⟨b, off, e, h0, h1, h2⟩ := h hn
  refine ⟨b, off, e, h0, h1, fun i hi j hj => ?_⟩
  rw [World.cell?_setCell_other _ _ _ _ (fun e' => by rw [e'] at hp; exact absurd hp (by show ¬ b < lo; omega))]
  exact h2 i hi j hj
theorem RIU.setHi {lo hi : Nat} {w : World} {A : Option Addr} {k n : Nat} {f : Nat → Nat → Int} (h : RIU lo hi w A k n f) {p : Addr} (hp : hi ≤ p.block) (v : Value) : RIU lo hi (w.setCell p v) A k n f := fun hn => by
  obtain ⟨b, off, e, h0, h1, h2⟩ := h hn
  refine ⟨b, off, e, h0, h1, fun i hi' j hj => ?_⟩
  rw [World.cell?_setCell_other _ _ _ _ (fun e' => by rw [e'] at hp; exact absurd hp (by show ¬ hi ≤ b; omega))]
  exact h2 i hi' j hj
theorem RIU.of_ri2 {lo : Nat} {w : World} {A : Option Addr} {k n : Nat} {f : Nat → Nat → Int} (h : RI2 lo w A k n f) : RIU lo w.heap.size w A k n f := fun hp => by
  obtain ⟨b, off, e, h0, h1, h2⟩ := h hp
  exact ⟨b, off, e, h0, h1, h2⟩
theorem RIU.ri {lo hi : Nat} {w : World} {A : Option Addr} {k n : Nat} {f : Nat → Nat → Int} (h : RIU lo hi w A k n f) (hh : hi ≤ w.heap.size) : RI w A k n f := fun hp => by
  obtain ⟨b, off, e, h0, h1, h2⟩ := h hp
  exact ⟨b, off, e, Nat.lt_of_lt_of_le h1 hh, h2⟩
theorem BoxAt.keep {T : Nat} {w w' : World} {s : Nat} {v0 v1 v2 v3 v4 v5 : Value} {p l t wa lo en inn : Int} (h : BoxAt w s v0 v1 v2 v3 v4 v5 p l t wa lo en inn) (hb : Below T w w') (hs : s < T) (hz : s < w'.heap.size) : BoxAt w' s v0 v1 v2 v3 v4 v5 p l t wa lo en inn :=
  ⟨hz, (hb.cell (p := ⟨s, 0, none⟩) hs).trans h.c0, (hb.cell (p := ⟨s, 1, none⟩) hs).trans h.c1, (hb.cell (p := ⟨s, 2, none⟩) hs).trans h.c2, (hb.cell (p := ⟨s, 3, none⟩) hs).trans h.c3, (hb.cell (p := ⟨s, 4, none⟩) hs).trans h.c4, (hb.cell (p := ⟨s, 5, none⟩) hs).trans h.c5, (hb.cell (p := ⟨s, 6, none⟩) hs).trans h.c6, (hb.cell (p := ⟨s, 7, none⟩) hs).trans h.c7, (hb.cell (p := ⟨s, 8, none⟩) hs).trans h.c8, (hb.cell (p := ⟨s, 9, none⟩) hs).trans h.c9, (hb.cell (p := ⟨s, 10, none⟩) hs).trans h.c10, (hb.cell (p := ⟨s, 11, none⟩) hs).trans h.c11, (hb.cell (p := ⟨s, 12, none⟩) hs).trans h.c12, fun k => (hb.frozen (p := ⟨s, k, none⟩) hs).trans (h.f k)⟩
theorem owns_mono {w : World} {B B' n z : Nat} {t : TypeId} {v : Value} {xs : List Value} (h : w.ownsRow B t z v n xs) (hB : B' ≤ B) : w.ownsRow B' t z v n xs := by
  refine ⟨h.1, ?_⟩
  rcases h.2 with h0 | ⟨g, cap, cur, hv, hB2, r⟩
  · exact .inl h0
  · exact .inr ⟨g, cap, cur, hv, Nat.le_trans hB hB2, r⟩
/-- The kinds' copy, of which the first k have new points. -/
def KCl (lo : Nat) (w : World) (A : Option Addr) (k n : Nat) (K : KK) : Prop :=
  0 < n → ∃ g, A = some ⟨g, 0, none⟩ ∧ lo ≤ g ∧ g < w.heap.size ∧ (∀ i, w.frozen? ⟨g, i, none⟩ = false) ∧ ∀ i, k ≤ i → i < n → w.cell? ⟨g, i * 4 + 1, none⟩ = some (.slice (K.A i) (K.p i).length (K.c i))
theorem KCl.of_owns {w : World} {base n c : Nat} {e : TypeId} {A : Option Addr} {K : KK} (h : w.ownsRow base e 4 (.slice A n c) n (kCells K n)) : KCl base w A 0 n K := fun hp => by
  rcases h.2 with ⟨_, h0⟩ | ⟨g, c, cur, hv, hb, hg, hr⟩
  · omega
  · injection hv with hv
    subst hv
    have hc := h.cells (g := g) rfl
    have hlt := h.lt g rfl
    refine ⟨g, rfl, hb, hlt.2, fun i => by simp [World.frozen?, hg], fun i _ hi => ?_⟩
    have := hc (i * 4 + 1) _ (kCells_at K hi).2.1
    rw [Go.WideShapes.add_plain, Nat.zero_add] at this
    exact this
theorem KCl.below {lo : Nat} {w w' : World} {A : Option Addr} {k n : Nat} {K : KK} (h : KCl lo w A k n K) (hb : Below w.heap.size w w') : KCl lo w' A k n K := fun hp => by
  obtain ⟨g, e, h0, h1, h2, h3⟩ := h hp
  exact ⟨g, e, h0, Nat.lt_of_lt_of_le h1 hb.size, fun i => (hb.frozen (p := ⟨g, i, none⟩) h1).trans (h2 i), fun i hk hi => (hb.cell (p := ⟨g, i * 4 + 1, none⟩) h1).trans (h3 i hk hi)⟩
theorem KCl.set {lo : Nat} {w : World} {A : Option Addr} {k n : Nat} {K : KK} (h : KCl lo w A k n K) {p : Addr} (hp : p.block < lo) (v : Value) : KCl lo (w.setCell p v) A k n K := fun hn => by
  obtain ⟨g, e, h0, h1, h2, h3⟩ := h hn
  refine ⟨g, e, h0, by simpa using h1, fun i => (World.frozen?_setCell _ _ _ _).trans (h2 i), fun i hk hi => ?_⟩
  rw [World.cell?_setCell_other _ _ _ _ (fun e' => by rw [e'] at hp; exact absurd hp (by show ¬ g < lo; omega))]
  exact h3 i hk hi
theorem KCl.step {lo g : Nat} {w : World} {k n : Nat} {K : KK} (h : KCl lo w (some ⟨g, 0, none⟩) k n K) (v : Value) : KCl lo (w.setCell ⟨g, k * 4 + 1, none⟩ v) (some ⟨g, 0, none⟩) (k + 1) n K := fun hn => by
  obtain ⟨g', e, h0, h1, h2, h3⟩ := h hn
  injection e with e
  injection e with e _
  subst e
  refine ⟨g, rfl, h0, by simpa using h1, fun i => (World.frozen?_setCell _ _ _ _).trans (h2 i), fun i hk hi => ?_⟩
  rw [World.cell?_setCell_other _ _ _ _ (by intro e; injection e with _ e; omega)]
  exact h3 i (by omega) hi

abbrev sysS (S : Sys) : Value := sysV (.slice S.po S.np S.cp) (.slice S.pu S.nu S.cu) (.slice S.pi S.ni S.ci) (.slice S.ki S.nk S.ck) (.slice S.gu S.ng S.cg) (.slice S.pa S.na S.ca) S.p S.l S.t S.wa S.lo S.en S.inn
def CopyOut (S : Sys) (w : World) (e : Ending) (w' : World) : Prop :=
  ∃ A c A1 c1 A2 c2 A3 c3 A4 c4 B d, e = .returned (sysV (.slice A S.np c) (.slice A1 S.nu c1) (.slice A2 S.ni c2) (.slice A3 S.nk c3) (.slice A4 S.ng c4) (.slice B S.na d) S.p S.l S.t S.wa S.lo S.en S.inn) ∧
    RI w' A 5 S.np S.fp ∧ (A = none → S.np = 0 ∧ c = 0) ∧ w'.ownsRow w.heap.size 57 5 (.slice B S.na d) S.na (flatL 5 S.fa S.na) ∧ Below w.heap.size w w'

set_option maxRecDepth 40000 in
set_option maxHeartbeats 8000000 in
theorem copy_any (S : Sys) (w : World) (hM : SysM w S) (hZ : SysZ S) : Calls Try.prog 37 #[sysS S] w (CopyOut S w) := by
  obtain ⟨po, pu, pi, ki, gu, pa, np, nu, ni, nk, ng, na, cp, cu, ci, ck, cg, ca, fp, fu, fi, K, fg, fa, p, l, t, wa, lo, en, inn⟩ := S
  have HM := Lib.hid hM
  have HZ := Lib.hid hZ
  have hnki : (nk : Int) ≤ 8 := by have := hZ.nk; simp only at this; omega
  clear hM hZ
  go_enter Try.func37, Try.ntmps37
  go_wp2_with fail
  refine (clone_pond po np cp (flatL 5 fp np) _ (by have := HZ.out.np; simp only at this; omega) (flatL_len _ _ _) (flatL_one _ _ _) (((HM.out.po.below (Joins.below_alloc1 _ _)).below (Joins.below_alloc1 _ _)).src (by omega) HZ.out.po0)).mono ?_
  rintro e w1 ⟨⟨A, c, rfl, hn1, ho1⟩, hb1⟩
  have HX := Lib.hid (((BoxAt.mk0 w (.slice po np cp) (.slice pu nu cu) (.slice pi ni ci) (.slice ki nk ck) (.slice gu ng cg) (.slice pa na ca) p l t wa lo en inn).below (Joins.below_alloc1 _ _)).below hb1)
  have hrb : BoxAt w1 (w.heap.size + 1) (.slice none 0 0) (.slice none 0 0) (.slice none 0 0) (.slice none 0 0) (.slice none 0 0) (.slice none 0 0) 0 0 0 0 0 0 0 := by
    have h := (BoxAt.mk0 (w.alloc (.cells #[.slice po np cp, .slice pu nu cu, .slice pi ni ci, .slice ki nk ck, .slice gu ng cg, .slice pa na ca, .int .i64 p, .int .i64 l, .int .i64 t, .int .i64 wa, .int .i64 lo, .int .i64 en, .int .i64 inn] 41)) (.slice none 0 0) (.slice none 0 0) (.slice none 0 0) (.slice none 0 0) (.slice none 0 0) (.slice none 0 0) 0 0 0 0 0 0 0).below hb1
    simpa using h
  have HR := Lib.hid hrb
  have HB : Hid (Below w.heap.size w w1) := Lib.hid (thru ((Below.refl _ _).alloc (Nat.le_refl _) _ |>.alloc (by simp) _) hb1 (by simp; omega))
  have HM1 := Lib.hid (HM.out.below HB.out)
  have hp0 : RI2 (w.heap.size + 2) w1 A 5 np fp := by
    have h := RI2.of_owns ho1
    simpa [Nat.add_assoc] using h
  have HP := Lib.hid (RIU.of_ri2 hp0)
  have HN := Lib.hid hn1
  have z1 : w.heap.size + 1 < w1.heap.size := HR.out.z
  clear hrb hp0 ho1 hn1 hb1
  -- the clone of field 1
  have HX' := Lib.hid (HX.out.set0 (.slice A np c))
  have HR' := Lib.hid (HR.out.setFar (q := ⟨w.heap.size, 0, none⟩) (by show w.heap.size ≠ w.heap.size + 1; omega) (.slice A np c))
  have HB' := Lib.hid (HB.out.setCell (p := ⟨w.heap.size, 0, none⟩) (Nat.le_refl _) (.slice A np c))
  have HP' := Lib.hid (HP.out.set (p := ⟨w.heap.size, 0, none⟩) (by show w.heap.size < w.heap.size + 2; omega) (.slice A np c))
  have HM1' := Lib.hid (HM.out.below HB'.out)
  obtain ⟨bz, b0, b1, b2, b3, b4, b5, b6, b7, b8, b9, b10, b11, b12, bf⟩ := HX.out
  have bf0 := bf 0; have bf1 := bf 1; have bf2 := bf 2; have bf3 := bf 3; have bf4 := bf 4; have bf5 := bf 5
  clear bf
  go_wp2_with fail
  refine (clone_pump pu nu cu (flatL 3 fu nu) _ (by have := HZ.out.nu; simp only at this; omega) (flatL_len _ _ _) (flatL_one _ _ _) (HM1'.out.pu.src (by omega) HZ.out.pu0)).mono ?_
  rintro e w2 ⟨⟨A1, c1, rfl, hn2, ho2⟩, hb2⟩
  clear bz b0 b1 b2 b3 b4 b5 b6 b7 b8 b9 b10 b11 b12 bf0 bf1 bf2 bf3 bf4 bf5
  have hs2 := hb2.size
  simp at hs2
  replace HX := Lib.hid (HX'.out.below hb2)
  replace HR := Lib.hid (HR'.out.below hb2)
  replace HB := Lib.hid (thru HB'.out hb2 HB'.out.size)
  replace HP := Lib.hid (HP'.out.keep hb2 (by first | (simp; done) | (simp; omega)))
  have z2 : w.heap.size + 1 < w2.heap.size := by omega
  clear HX' HR' HB' HP' HM1' hn2 ho2 hb2
  -- the clone of field 2
  have HX' := Lib.hid (HX.out.set1 (.slice A1 nu c1))
  have HR' := Lib.hid (HR.out.setFar (q := ⟨w.heap.size, 1, none⟩) (by show w.heap.size ≠ w.heap.size + 1; omega) (.slice A1 nu c1))
  have HB' := Lib.hid (HB.out.setCell (p := ⟨w.heap.size, 1, none⟩) (Nat.le_refl _) (.slice A1 nu c1))
  have HP' := Lib.hid (HP.out.set (p := ⟨w.heap.size, 1, none⟩) (by show w.heap.size < w.heap.size + 2; omega) (.slice A1 nu c1))
  have HM1' := Lib.hid (HM.out.below HB'.out)
  obtain ⟨bz, b0, b1, b2, b3, b4, b5, b6, b7, b8, b9, b10, b11, b12, bf⟩ := HX.out
  have bf0 := bf 0; have bf1 := bf 1; have bf2 := bf 2; have bf3 := bf 3; have bf4 := bf 4; have bf5 := bf 5
  clear bf
  go_wp2_with fail
  refine (clone_pipe pi ni ci (flatL 5 fi ni) _ (by have := HZ.out.ni; simp only at this; omega) (flatL_len _ _ _) (flatL_one _ _ _) (HM1'.out.pi.src (by omega) HZ.out.pi0)).mono ?_
  rintro e w3 ⟨⟨A2, c2, rfl, hn3, ho3⟩, hb3⟩
  clear bz b0 b1 b2 b3 b4 b5 b6 b7 b8 b9 b10 b11 b12 bf0 bf1 bf2 bf3 bf4 bf5
  have hs3 := hb3.size
  simp at hs3
  replace HX := Lib.hid (HX'.out.below hb3)
  replace HR := Lib.hid (HR'.out.below hb3)
  replace HB := Lib.hid (thru HB'.out hb3 HB'.out.size)
  replace HP := Lib.hid (HP'.out.keep hb3 (by first | (simp; done) | (simp; omega)))
  have z3 : w.heap.size + 1 < w3.heap.size := by omega
  clear HX' HR' HB' HP' HM1' hn3 ho3 hb3
  -- the clone of field 3
  have HX' := Lib.hid (HX.out.set2 (.slice A2 ni c2))
  have HR' := Lib.hid (HR.out.setFar (q := ⟨w.heap.size, 2, none⟩) (by show w.heap.size ≠ w.heap.size + 1; omega) (.slice A2 ni c2))
  have HB' := Lib.hid (HB.out.setCell (p := ⟨w.heap.size, 2, none⟩) (Nat.le_refl _) (.slice A2 ni c2))
  have HP' := Lib.hid (HP.out.set (p := ⟨w.heap.size, 2, none⟩) (by show w.heap.size < w.heap.size + 2; omega) (.slice A2 ni c2))
  have HM1' := Lib.hid (HM.out.below HB'.out)
  obtain ⟨bz, b0, b1, b2, b3, b4, b5, b6, b7, b8, b9, b10, b11, b12, bf⟩ := HX.out
  have bf0 := bf 0; have bf1 := bf 1; have bf2 := bf 2; have bf3 := bf 3; have bf4 := bf 4; have bf5 := bf 5
  clear bf
  go_wp2_with fail
  refine (clone_gkind ki nk ck (kCells K nk) _ (by have := HZ.out.nk; simp only at this; omega) (kCells_len _ _) (kCells_one _ _) (HM1'.out.ki.src HZ.out.ki0)).mono ?_
  rintro e w4 ⟨⟨A3, c3, rfl, hn4, ho4⟩, hb4⟩
  clear bz b0 b1 b2 b3 b4 b5 b6 b7 b8 b9 b10 b11 b12 bf0 bf1 bf2 bf3 bf4 bf5
  have hs4 := hb4.size
  simp at hs4
  replace HX := Lib.hid (HX'.out.below hb4)
  replace HR := Lib.hid (HR'.out.below hb4)
  replace HB := Lib.hid (thru HB'.out hb4 HB'.out.size)
  replace HP := Lib.hid (HP'.out.keep hb4 (by first | (simp; done) | (simp; omega)))
  have z4 : w.heap.size + 1 < w4.heap.size := by omega
  clear HX' HR' HB' HP' HM1' hn4
  -- the loop over the kinds
  have hk0 : KCl w3.heap.size w4 A3 0 nk K := by
    have h := KCl.of_owns ho4
    simpa using h
  have HT : Hid (w1.heap.size ≤ w3.heap.size) := Lib.hid (by omega)
  have b3 := HX.out.c3
  have bf3 := HX.out.f 3
  replace HX := Lib.hid (HX.out.set3 (.slice A3 nk c3))
  replace HR := Lib.hid (HR.out.setFar (q := ⟨w.heap.size, 3, none⟩) (by show w.heap.size ≠ w.heap.size + 1; omega) (.slice A3 nk c3))
  have HBo := HB
  replace HB := Lib.hid (HB.out.setCell (p := ⟨w.heap.size, 3, none⟩) (Nat.le_refl _) (.slice A3 nk c3))
  replace HP := Lib.hid (HP.out.set (p := ⟨w.heap.size, 3, none⟩) (by show w.heap.size < w.heap.size + 2; omega) (.slice A3 nk c3))
  have HK := Lib.hid (hk0.set (p := ⟨w.heap.size, 3, none⟩) (by show w.heap.size < w3.heap.size; omega) (.slice A3 nk c3))
  have bz : w.heap.size < w4.heap.size := by omega
  have hzz : w1.heap.size ≤ w4.heap.size := by omega
  have HZX : Hid (w3.heap.size ≤ (w4.setCell ⟨w.heap.size, 3, none⟩ (.slice A3 nk c3)).heap.size) := Lib.hid (by simp; omega)
  have hk0z : w.heap.size + 1 < w3.heap.size := by omega
  clear hk0 ho4 hb4 hs2 hs3 hs4 z1 z2 z3 HM1
  go_wp2_with fail
  have HZ3 : Hid (w.heap.size + 1 < w3.heap.size) := Lib.hid (by have := HR.out.z; have := hk0z; omega)
  clear b3 bz bf3 hk0z
  generalize hw4 : w4.setCell ⟨w.heap.size, 3, none⟩ (.slice A3 nk c3) = wx at *
  clear hw4 HBo
  go_loopw [23] (fun i wr => ∃ k : Nat, k ≤ nk ∧ i = .int .i64 k ∧ Hid (BoxAt wr w.heap.size (.slice A np c) (.slice A1 nu c1) (.slice A2 ni c2) (.slice A3 nk c3) (.slice gu ng cg) (.slice pa na ca) p l t wa lo en inn) ∧ Hid (BoxAt wr (w.heap.size + 1) (.slice none 0 0) (.slice none 0 0) (.slice none 0 0) (.slice none 0 0) (.slice none 0 0) (.slice none 0 0) 0 0 0 0 0 0 0) ∧ Hid (Below w.heap.size w wr) ∧ Hid (RIU (w.heap.size + 2) w1.heap.size wr A 5 np fp) ∧ Hid (KCl w3.heap.size wr A3 k nk K) ∧ Hid (w3.heap.size ≤ wr.heap.size)) (fun i _ => nk - (intOf i).toNat)
  case atStart => exact ⟨0, Nat.zero_le _, rfl, HX, HR, HB, HP, HK, HZX⟩
  case round =>
    clear HX HR HB HP HK HZX
    obtain ⟨k, hk, rfl, HX, HR, HB, HP, HK, HZX⟩ := hrel
    have b3 := HX.out.c3
    have bz := HX.out.z
    by_cases hlt : k < nk
    · have hlti : (k : Int) < (nk : Int) := by omega
      obtain ⟨g, rfl, hg0, hg1, hgf, hge⟩ := HK.out (by omega)
      have he := hge k (Nat.le_refl _) hlt
      have hgf1 := hgf (k * 4 + 1)
      have HCC : Hid (∀ W, Below w.heap.size w W → Calls Try.prog 69 #[.slice (K.A k) (K.p k).length (K.c k)] W fun e w' => (∃ A' c', e = .returned (.slice A' (K.p k).length c')) ∧ Below W.heap.size W w') := Lib.hid fun W hW => by
        refine (clone_point (K.A k) (K.p k).length (K.c k) (drC (K.p k)) W (by have := HZ.out.kp k hlt; simp only at this; omega) (drC_len _) (drC_one _) (((HM.out.below hW).ki.pts hlt).src (HZ.out.kp0 k hlt))).mono ?_
        rintro e w' ⟨⟨A', c', h1, _, _⟩, h2⟩
        exact ⟨⟨A', c', h1⟩, h2⟩
      generalize K.A k = Ak at *
      generalize (K.p k).length = lk at *
      generalize K.c k = ck at *
      have HLT := Lib.hid hlt
      have HB1 := HB.out.drew
      have hne : w.heap.size ≠ g := by have := HZ3.out; omega
      have hne2 : g ≠ w.heap.size := by omega
      have HG0 := Lib.hid hg0
      clear hgf hge hlt hg0
      go_upto_region 8 with fail
      go_region_with (first
        | (go_at_call 69; (with_reducible refine (HCC.out _ (by first | exact HB.out | exact HB.out.drew)).mono ?_); rintro e w5 ⟨⟨A5, c5, rfl⟩, hb5⟩; have zz : wr.heap.size ≤ w5.heap.size := (by have := hb5.size; simpa using this); have z5 : w.heap.size < w5.heap.size := (by omega); have zg5 : g < w5.heap.size := (by omega); have q3 := (hb5.cell (p := ⟨w.heap.size, 3, none⟩) bz).trans b3; have qe := (hb5.cell (p := ⟨g, k * 4 + 1, none⟩) hg1).trans he; have qf := (hb5.frozen (p := ⟨g, k * 4 + 1, none⟩) hg1).trans hgf1))
      all_goals
        have hb5' : Below wr.heap.size wr w5 := thru (B := wr.heap.size) ((Below.refl _ _).drew) hb5 (Nat.le_refl _)
        have HX' := Lib.hid ((HX.out.below hb5').setFar (q := ⟨g, k * 4 + 1, none⟩) hne2 (.slice A5 lk c5))
        have HR' := Lib.hid ((HR.out.below hb5').setFar (q := ⟨g, k * 4 + 1, none⟩) (by show g ≠ w.heap.size + 1; have := HZ3.out; have := HG0.out; omega) (.slice A5 lk c5))
        have HB' := Lib.hid ((thru HB.out hb5' HB.out.size).setCell (p := ⟨g, k * 4 + 1, none⟩) (by show w.heap.size ≤ g; have := HZ3.out; have := HG0.out; omega) (.slice A5 lk c5))
        have HP' := Lib.hid ((HP.out.keep hb5' (by have := HZX.out; have := HT.out; omega)).setHi (p := ⟨g, k * 4 + 1, none⟩) (by show w1.heap.size ≤ g; have := HT.out; have := HG0.out; omega) (.slice A5 lk c5))
        have HK' := Lib.hid ((HK.out.below hb5').step (.slice A5 lk c5))
        have HZX' : Hid (w3.heap.size ≤ (w5.setCell ⟨g, k * 4 + 1, none⟩ (.slice A5 lk c5)).heap.size) := Lib.hid (by simp; have := HZX.out; omega)
        clear hb5 hb5' q3 qe qf zz z5 zg5 b3 he hgf1 bz hg1 hne hne2 HX HR HB HP HK HZX HB1
        go_wp2
        go_roundw
        case rel => exact ⟨k + 1, HLT.out, by go_num, HX', HR', HB', HP', HK', HZX'⟩
        case measure => have := HLT.out; simp [intOf]; omega
    · have hlti : decide ((k : Int) < (nk : Int)) = false := decide_eq_false (by omega)
      clear b3 bz HK hnki
      have HM1 := Lib.hid (HM.out.below HB.out)
      have HP1 : Hid (w1.heap.size ≤ wr.heap.size) := Lib.hid (by have := HZX.out; have := HT.out; omega)
      obtain ⟨bz, b0, b1, b2, b3, b4, b5, b6, b7, b8, b9, b10, b11, b12, bf⟩ := HX.out
      have bf0 := bf 0; have bf1 := bf 1; have bf2 := bf 2; have bf3 := bf 3; have bf4 := bf 4; have bf5 := bf 5
      clear bf
      go_wp2_with fail
      refine (clone_gun gu ng cg (flatL 8 fg ng) _ (by have := HZ.out.ng; simp only at this; omega) (flatL_len _ _ _) (flatL_one _ _ _) (HM1.out.gu.src (by omega) HZ.out.gu0)).mono ?_
      rintro e w5 ⟨⟨A4, c4, rfl, hn5, ho5⟩, hb5⟩
      clear bz b0 b1 b2 b3 b4 b5 b6 b7 b8 b9 b10 b11 b12 bf0 bf1 bf2 bf3 bf4 bf5
      replace HX := Lib.hid (HX.out.below hb5)
      replace HR := Lib.hid (HR.out.below hb5)
      replace HB := Lib.hid (thru HB.out hb5 HB.out.size)
      replace HP := Lib.hid (HP.out.keep hb5 HP1.out)
      replace HP1 : Hid (w1.heap.size ≤ w5.heap.size) := Lib.hid (by have := HP1.out; have := hb5.size; omega)
      have z5 : w.heap.size + 1 < w5.heap.size := HR.out.z
      clear HM1 hn5 ho5 hb5
      have hp1 := HP1.out
      -- the clone of field 5
      have HX' := Lib.hid (HX.out.set4 (.slice A4 ng c4))
      have HR' := Lib.hid (HR.out.setFar (q := ⟨w.heap.size, 4, none⟩) (by show w.heap.size ≠ w.heap.size + 1; omega) (.slice A4 ng c4))
      have HB' := Lib.hid (HB.out.setCell (p := ⟨w.heap.size, 4, none⟩) (Nat.le_refl _) (.slice A4 ng c4))
      have HP' := Lib.hid (HP.out.set (p := ⟨w.heap.size, 4, none⟩) (by show w.heap.size < w.heap.size + 2; omega) (.slice A4 ng c4))
      have HM1' := Lib.hid (HM.out.below HB'.out)
      obtain ⟨bz, b0, b1, b2, b3, b4, b5, b6, b7, b8, b9, b10, b11, b12, bf⟩ := HX.out
      have bf0 := bf 0; have bf1 := bf 1; have bf2 := bf 2; have bf3 := bf 3; have bf4 := bf 4; have bf5 := bf 5
      clear bf
      go_wp2_with fail
      refine (clone_rpack pa na ca (flatL 5 fa na) _ (by have := HZ.out.na; simp only at this; omega) (flatL_len _ _ _) (flatL_one _ _ _) (HM1'.out.pa.src (by omega) HZ.out.pa0)).mono ?_
      rintro e w6 ⟨⟨B, d, rfl, hn6, ho6⟩, hb6⟩
      clear bz b0 b1 b2 b3 b4 b5 b6 b7 b8 b9 b10 b11 b12 bf0 bf1 bf2 bf3 bf4 bf5
      have hs6 := hb6.size
      simp at hs6
      replace HX := Lib.hid (HX'.out.below hb6)
      replace HR := Lib.hid (HR'.out.below hb6)
      replace HB := Lib.hid (thru HB'.out hb6 HB'.out.size)
      replace HP := Lib.hid (HP'.out.keep hb6 (by first | (simp; done) | (simp; omega)))
      have z6 : w.heap.size + 1 < w6.heap.size := by omega
      clear HX' HR' HB' HP' HM1' hn6
      -- the end
      replace HP1 : Hid (w1.heap.size ≤ w6.heap.size) := Lib.hid (by have := HP1.out; omega)
      have ho6' : w6.ownsRow (w.heap.size + 2) 57 5 (.slice B na d) na (flatL 5 fa na) := by
        refine ⟨ho6.1, ?_⟩
        rcases ho6.2 with h0 | ⟨g, cap, cur, hv, hB, r⟩
        · exact .inl h0
        · exact .inr ⟨g, cap, cur, hv, by simp at hB; omega, r⟩
      have HOW := Lib.hid ho6'
      clear ho6 ho6' hb6 hs6
      obtain ⟨bz, b0, b1, b2, b3, b4, b5, b6, b7, b8, b9, b10, b11, b12, bf⟩ := HX.out
      have bf0 := bf 0; have bf1 := bf 1; have bf2 := bf 2; have bf3 := bf 3; have bf4 := bf 4; have bf5 := bf 5
      clear bf
      obtain ⟨_, r0, r1, r2, r3, r4, r5, r6, r7, r8, r9, r10, r11, r12, rf⟩ := HR.out
      have rf0 := rf 0; have rf1 := rf 1; have rf2 := rf 2; have rf3 := rf 3; have rf4 := rf 4; have rf5 := rf 5; have rf6 := rf 6; have rf7 := rf 7; have rf8 := rf 8; have rf9 := rf 9; have rf10 := rf 10; have rf11 := rf 11; have rf12 := rf 12
      clear rf HX HR
      go_wp2
      refine bodyPost_ret (v := sysV (.slice A np c) (.slice A1 nu c1) (.slice A2 ni c2) (.slice A3 nk c3) (.slice A4 ng c4) (.slice B na d) p l t wa lo en inn) (by simp [results, Try.results37, go_sem, r0, r1, r2, r3, r4, r5, r6, r7, r8, r9, r10, r11, r12]) rfl ?_
      refine ⟨A, c, A1, c1, A2, c2, A3, c3, A4, c4, B, d, rfl, ?_, HN.out, ?_, ?_⟩
      · refine RIU.ri (lo := w.heap.size + 2) (hi := w1.heap.size) ?_ (by simp; exact HP1.out)
        iterate 14 refine RIU.set ?_ (by first | (show w.heap.size < w.heap.size + 2; omega) | (show w.heap.size + 1 < w.heap.size + 2; omega)) _
        exact HP.out
      · refine owns_mono ?_ (by omega : w.heap.size ≤ w.heap.size + 2)
        iterate 14 refine owns_set3 ?_ (owns_ne HOW.out (by first | (show w.heap.size < w.heap.size + 2; omega) | (show w.heap.size + 1 < w.heap.size + 2; omega))) _
        exact HOW.out
      · iterate 14 refine Below.setCell ?_ (by first | exact Nat.le_refl _ | (show w.heap.size ≤ w.heap.size + 1; omega)) _
        exact HB.out
end Go.Proofs.Ytljhocdbfbjpiaa
