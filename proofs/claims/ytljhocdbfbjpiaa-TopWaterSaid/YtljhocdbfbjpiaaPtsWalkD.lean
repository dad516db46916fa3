/-
  The walk of the reference's value of a function at x.
-/
import Derived.Test.YtljhocdbfbjpiaaPtsWalkC
namespace Go.Proofs.Ytljhocdbfbjpiaa
open Go.RowKit

set_option maxHeartbeats 1000000 in
theorem rat_no (ps : List (Int × Int)) (x : Int) (A : Option Addr) (c : Nat) (w : World) (hR : RdP w A ps) (hp : Fix.pts ps = false) :
    Calls Try.prog 101 #[.slice A ps.length c, .int .i64 x] w fun e w' => e = .returned (.tuple #[.int .i64 0, .int .i64 1]) ∧ Below w.heap.size w w' := by
  have HP := Lib.hid hp
  clear hp
  go_enter Try.func101, Try.ntmps101
  go_wp2_with fail
  refine (rpoints_any ps A c _ hR).mono ?_
  rw [HP.out]
  rintro e w1 ⟨rfl, hb1⟩
  go_wp2
  go_ret2
  exact ⟨rfl, hb1⟩

set_option maxHeartbeats 1000000 in
theorem rat_yes (ps : List (Int × Int)) (x : Int) (A : Option Addr) (c : Nat) (w : World) (hR : RdP w A ps) (hp : Fix.pts ps = true) :
    Calls Try.prog 101 #[.slice A ps.length c, .int .i64 x] w fun e w' => e = .returned (.tuple #[.int .i64 (Fix.atv ps x), .int .i64 0]) ∧ Below w.heap.size w w' := by
  obtain ⟨h1, h2, hall⟩ := Fix.pts_iff.1 hp
  have HP := Lib.hid hp
  have HA := Lib.hid hall
  clear hp hall
  go_enter Try.func101, Try.ntmps101
  go_wp2_with fail
  refine (rpoints_any ps A c _ hR).mono ?_
  rw [HP.out]
  rintro e w1 ⟨rfl, hb1⟩
  obtain ⟨b, off, rfl, hbl, hcell⟩ := (hR.below hb1) (by omega)
  have HB1 := Lib.hid hb1
  have HC := Lib.hid hcell
  obtain ⟨n, hn⟩ : ∃ n, ps.length = n + 1 := ⟨ps.length - 1, by omega⟩
  obtain ⟨cx0, cy0⟩ := hcell 0 (by omega)
  obtain ⟨cxn, cyn⟩ := hcell n (by omega)
  simp only [Nat.zero_mul, Nat.add_zero] at cx0 cy0
  clear hb1 hcell hR
  generalize hx0 : Fix.px ps 0 = x0 at *
  generalize hy0 : Fix.py ps 0 = y0 at *
  generalize hxn : Fix.px ps n = xn at *
  generalize hyn : Fix.py ps n = yn at *
  have HX0 := Lib.hid hx0
  have HY0 := Lib.hid hy0
  have HXN := Lib.hid hxn
  have HYN := Lib.hid hyn
  have HN := Lib.hid hn
  have hn0 : (0 : Int) < (ps.length : Int) := by omega
  have hi : ((ps.length : Int) - 1).toNat = n := by omega
  clear hx0 hy0 hxn hyn hn
  have hx0n : x0 ≤ xn := by
    have := (Fix.Inc.of_pts HP.out).le_last 0 (by omega)
    rw [HX0.out, show ps.length - 1 = n by have := HN.out; omega, HXN.out] at this
    exact this
  go_upto_region 3 with fail
  go_cut [6] (fun s6 wv => ∃ wx : World, wx = wv ∧ PtAt wx s6 xn yn ∧ Below w1.heap.size w1 wx)
  case first =>
    all_goals
      go_wp2_with fail
      go_meet
      refine ⟨_, rfl, ⟨_, rfl, ?_, ?_⟩, (Below.refl _ _).alloc (Nat.le_refl _) _⟩
      all_goals simp [go_sem]
  case rest =>
    obtain ⟨wx, rfl, ⟨g7, rfl, c7x, c7y⟩, hbx⟩ := hcut
    obtain ⟨cx0, cy0⟩ : wx.cell? ⟨b, off, none⟩ = some (.int .i64 x0) ∧ wx.cell? ⟨b, off + 1, none⟩ = some (.int .i64 y0) := ⟨(hbx.cell (p := ⟨b, off, none⟩) hbl).trans cx0, (hbx.cell (p := ⟨b, off + 1, none⟩) hbl).trans cy0⟩
    have HBX := Lib.hid (HB1.out.trans (hbx.mono HB1.out.size))
    have hbl' : b < wx.heap.size := Nat.lt_of_lt_of_le hbl hbx.size
    have HC' : Hid (∀ i, i < ps.length → wx.cell? ⟨b, off + i * 2, none⟩ = some (.int .i64 (Fix.px ps i)) ∧ wx.cell? ⟨b, off + i * 2 + 1, none⟩ = some (.int .i64 (Fix.py ps i))) :=
      Lib.hid fun i hi => ⟨(hbx.cell (p := ⟨b, off + i * 2, none⟩) hbl).trans (HC.out i hi).1, (hbx.cell (p := ⟨b, off + i * 2 + 1, none⟩) hbl).trans (HC.out i hi).2⟩
    clear hbx cxn cyn
    by_cases c1 : x ≤ x0
    · have HQ : Hid (Fix.atv ps x = y0) := Lib.hid (by rw [Fix.atv_low (by rw [HX0.out]; exact c1), HY0.out])
      go_wp2
      go_ret2
      exact ⟨by rw [HQ.out]; rfl, HBX.out⟩
    by_cases c2 : xn ≤ x
    · have HQ : Hid (Fix.atv ps x = yn) := Lib.hid (by
        have e : ps.length - 1 = n := by have := HN.out; omega
        rw [Fix.atv_high (Fix.Inc.of_pts HP.out) (by rw [e, HXN.out]; exact c2), e, HYN.out])
      go_wp2
      go_ret2
      exact ⟨by rw [HQ.out]; rfl, HBX.out⟩
    · go_wp2
      go_loop [7] (fun i => ∃ k : Nat, k + 1 ≤ n ∧ i = .int .i64 k ∧ Fix.px ps k ≤ x) (fun i => n - (intOf i).toNat)
      case atStart =>
        refine ⟨0, ?_, rfl, by rw [HX0.out]; omega⟩
        rcases Nat.eq_zero_or_pos n with h | h
        · subst h
          have := HX0.out; have := HXN.out; omega
        · omega
      case round =>
        obtain ⟨k, hk, rfl, hkx⟩ := hrel
        obtain ⟨ckx, cky⟩ := HC'.out k (by omega)
        obtain ⟨ckx', cky'⟩ := HC'.out (k + 1) (by have := HN.out; omega)
        have ok1 := (HA.out k (by omega))
        have ok2 := (HA.out (k + 1) (by have := HN.out; omega))
        have k1 := ok1.x0; have k2 := ok1.x1; have k3 := ok1.y0; have k4 := ok1.y1
        have l1 := ok2.x0; have l2 := ok2.x1; have l3 := ok2.y0; have l4 := ok2.y1
        have lk : Fix.px ps k < Fix.px ps (k + 1) := ok2.up (by omega)
        have hkl : (k : Int) + 1 < (ps.length : Int) := by have := HN.out; omega
        have hkl' : k < ps.length := by omega
        generalize hp1 : Fix.px ps k = p1 at *
        generalize hp2 : Fix.py ps k = p2 at *
        generalize hq1 : Fix.px ps (k + 1) = q1 at *
        generalize hq2 : Fix.py ps (k + 1) = q2 at *
        have P1 := Lib.hid hp1
        have P2 := Lib.hid hp2
        have Q1 := Lib.hid hq1
        have Q2 := Lib.hid hq2
        clear hp1 hp2 hq1 hq2 ok1 ok2
        by_cases hq : q1 ≤ x
        · go_wp2
          go_round
          case rel =>
            refine ⟨k + 1, ?_, by go_num, by rw [Q1.out]; exact hq⟩
            rcases Nat.lt_or_ge (k + 1) n with h | h
            · omega
            · exfalso
              obtain rfl : n = k + 1 := by omega
              have := Q1.out; have := HXN.out; omega
          case measure => simp [intOf]; omega
        · go_upto_region 11 with fail
          go_cut [8, 9] (fun s9 s10 wv => ∃ wy : World, wy = wv ∧ PtAt wy s9 p1 p2 ∧ PtAt wy s10 q1 q2 ∧ Below w.heap.size w wy)
          case first =>
            go_region
            all_goals
              go_wp2_with fail
              go_meet
              refine ⟨_, rfl, ⟨_, rfl, ?_, ?_⟩, ⟨_, rfl, ?_, ?_⟩, (((HBX.out.alloc HBX.out.size _).alloc (by have := HBX.out.size; simp; omega) _).trans (Joins.below_draws _ _ 1))⟩
              all_goals simp [go_sem]
          case rest =>
            obtain ⟨wy, rfl, ⟨g9, rfl, c9x, c9y⟩, ⟨g10, rfl, c10x, c10y⟩, hby⟩ := hcut
            have HBY := Lib.hid hby
            have HQ : Hid (Fix.atv ps x = p2 + (q2 - p2) * (x - p1) / (q1 - p1)) := Lib.hid (by
              rw [Fix.atv_mid k (Fix.Inc.of_pts HP.out) (by have := HN.out; omega) (by rw [P1.out]; exact hkx) (by rw [Q1.out]; omega) (by rw [HX0.out]; omega), P1.out, P2.out, Q1.out, Q2.out])
            clear hby cx0 cy0 c7x c7y ckx cky ckx' cky'
            obtain ⟨mb1, mb2⟩ := mul_bd (c := q2 - p2) (t := x - p1) (by omega) (by omega) (by omega) (by omega)
            have sb := Fix.slope_bd (a := p2) (b := q2) (t := x - p1) (d := q1 - p1) (by omega) (by omega) (by omega) k3 k4 l3 l4
            obtain ⟨sb1, sb2⟩ := sb
            have f1 : IntKind.i64.wrap (q2 - p2) = q2 - p2 := IntWalk.i64_in _ (by omega)
            have f2 : IntKind.i64.wrap (x - p1) = x - p1 := IntWalk.i64_in _ (by omega)
            have f3 : IntKind.i64.wrap (q1 - p1) = q1 - p1 := IntWalk.i64_in _ (by omega)
            have f4 : IntKind.i64.wrap ((q2 - p2) * (x - p1)) = (q2 - p2) * (x - p1) := IntWalk.i64_in _ (by omega)
            have f5 : IntKind.i64.wrap (p2 + (q2 - p2) * (x - p1) / (q1 - p1)) = p2 + (q2 - p2) * (x - p1) / (q1 - p1) := IntWalk.i64_in _ (by omega)
            have FC := Lib.hid (fun W => rfloor_any ((q2 - p2) * (x - p1)) (q1 - p1) W (by omega) (by omega) (by omega) (by omega))
            go_wp2_with fail
            go_quiet ((go_at_call 112; first | (with_reducible exact quiet_left (FC.out _)) | (with_reducible exact quiet_add_left (FC.out _))))
            go_wp2
            go_ret2
            refine ⟨by rw [HQ.out]; rfl, HBY.out.trans (Joins.below_draws _ _ _)⟩
end Go.Proofs.Ytljhocdbfbjpiaa
