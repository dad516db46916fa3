/-
  The walk of the law that a function's value lies between its least and greatest Y, and rises where they do.
-/
import Derived.Test.YtcfikdoejmgejaaDoorFixLawA
namespace Go.Proofs.YtcfikdoejmgejaaDoor
open Go.RowKit

set_option maxHeartbeats 4000000 in
theorem lawFixRises (ps : List (Int × Int)) (x y : Int) (A : Option Addr) (c : Nat) (w : World) (hR : RdP w A ps) (hE : Env w) :
    Calls Tryd.prog 10 #[.slice A ps.length c, .int .i64 x, .int .i64 y] w fun e w' => e = .returned (.bool true) ∧ Below w.heap.size w w' := by
  have HE := Lib.hid hE
  have HR := Lib.hid hR
  clear hE hR
  by_cases hl : 100 < ps.length
  · go_enter Tryd.func10, Tryd.ntmps10
    go_wp2_with fail
    refine (alive_any _ HE.out).mono ?_
    rintro e w1 ⟨rfl, hb1⟩
    obtain ⟨hc1, hf1⟩ := bcell hb1; have z1 := hb1.size; (try simp at z1); have g1 : Below w.heap.size w w1 := thru (by go_grown) hb1 (by first | omega | (simp; done) | (simp; omega)); (try have s1 : w.heap.size < w1.heap.size := by omega); (try have t1_a1 : w.heap.size < w1.heap.size + 1 := by omega); (try have t1_a2 : w.heap.size < w1.heap.size + 1 + 1 := by omega)
    go_wp2
    go_ret
    exact ⟨rfl, by go_grown⟩
  by_cases h0 : ps.length = 0
  · have h0' : ((ps.length : Int) == 0) = true := by rw [beq_iff_eq]; omega
    clear h0
    go_enter Tryd.func10, Tryd.ntmps10
    go_wp2_with fail
    refine (alive_any _ HE.out).mono ?_
    rintro e w1 ⟨rfl, hb1⟩
    obtain ⟨hc1, hf1⟩ := bcell hb1; have z1 := hb1.size; (try simp at z1); have g1 : Below w.heap.size w w1 := thru (by go_grown) hb1 (by first | omega | (simp; done) | (simp; omega)); (try have s1 : w.heap.size < w1.heap.size := by omega); (try have t1_a1 : w.heap.size < w1.heap.size + 1 := by omega); (try have t1_a2 : w.heap.size < w1.heap.size + 1 + 1 := by omega)
    go_wp2
    go_ret
    exact ⟨rfl, by go_grown⟩
  have h0' : ((ps.length : Int) == 0) = false := by rw [beq_eq_false_iff_ne]; omega
  have hpos : 1 ≤ ps.length := by omega
  have hlen : ps.length ≤ 100 := by omega
  clear h0 hl
  by_cases hxy : y < x
  · go_enter Tryd.func10, Tryd.ntmps10
    go_wp2_with fail
    refine (alive_any _ HE.out).mono ?_
    rintro e w1 ⟨rfl, hb1⟩
    obtain ⟨hc1, hf1⟩ := bcell hb1; have z1 := hb1.size; (try simp at z1); have g1 : Below w.heap.size w w1 := thru (by go_grown) hb1 (by first | omega | (simp; done) | (simp; omega)); (try have s1 : w.heap.size < w1.heap.size := by omega); (try have t1_a1 : w.heap.size < w1.heap.size + 1 := by omega); (try have t1_a2 : w.heap.size < w1.heap.size + 1 + 1 := by omega)
    go_wp2
    go_ret
    exact ⟨rfl, by go_grown⟩
  have hxy' : x ≤ y := by omega
  clear hxy
  cases hp : Fix.pts ps
  · have HP := Lib.hid hp
    clear hp
    go_enter Tryd.func10, Tryd.ntmps10
    go_wp2_with fail
    refine (alive_any _ HE.out).mono ?_
    rintro e w1 ⟨rfl, hb1⟩
    have R1 := Lib.hid (HR.out.below hb1)
    obtain ⟨hc1, hf1⟩ := bcell hb1; have z1 := hb1.size; (try simp at z1); have g1 : Below w.heap.size w w1 := thru (by go_grown) hb1 (by first | omega | (simp; done) | (simp; omega)); (try have s1 : w.heap.size < w1.heap.size := by omega); (try have t1_a1 : w.heap.size < w1.heap.size + 1 := by omega); (try have t1_a2 : w.heap.size < w1.heap.size + 1 + 1 := by omega)
    go_wp2_with fail
    refine (fat_no ps x A c _ R1.out HP.out).mono ?_
    rintro e w2 ⟨rfl, hb2⟩
    have R2 := Lib.hid (R1.out.below hb2)
    obtain ⟨hc2, hf2⟩ := bcell hb2; have z2 := hb2.size; (try simp at z2); have g2 : Below w.heap.size w w2 := thru (by go_grown) hb2 (by first | omega | (simp; done) | (simp; omega)); (try have s2 : w.heap.size < w2.heap.size := by omega); (try have t2_a1 : w.heap.size < w2.heap.size + 1 := by omega); (try have t1_2_a1 : w1.heap.size < w2.heap.size + 1 := by omega); (try have t2_a2 : w.heap.size < w2.heap.size + 1 + 1 := by omega); (try have t1_2_a2 : w1.heap.size < w2.heap.size + 1 + 1 := by omega); (try have s1_2 : w1.heap.size < w2.heap.size := by omega)
    go_wp2_with fail
    refine (fat_no ps y A c _ R2.out HP.out).mono ?_
    rintro e w3 ⟨rfl, hb3⟩
    obtain ⟨hc3, hf3⟩ := bcell hb3; have z3 := hb3.size; (try simp at z3); have g3 : Below w.heap.size w w3 := thru (by go_grown) hb3 (by first | omega | (simp; done) | (simp; omega)); (try have s3 : w.heap.size < w3.heap.size := by omega); (try have t3_a1 : w.heap.size < w3.heap.size + 1 := by omega); (try have t1_3_a1 : w1.heap.size < w3.heap.size + 1 := by omega); (try have t2_3_a1 : w2.heap.size < w3.heap.size + 1 := by omega); (try have t3_a2 : w.heap.size < w3.heap.size + 1 + 1 := by omega); (try have t1_3_a2 : w1.heap.size < w3.heap.size + 1 + 1 := by omega); (try have t2_3_a2 : w2.heap.size < w3.heap.size + 1 + 1 := by omega); (try have s1_3 : w1.heap.size < w3.heap.size := by omega); (try have s2_3 : w2.heap.size < w3.heap.size := by omega)
    go_wp2
    go_ret
    exact ⟨rfl, by go_grown⟩
  · have HP := Lib.hid hp
    obtain ⟨_, _, hall⟩ := Fix.pts_iff.1 hp
    have HA := Lib.hid hall
    obtain ⟨a, ha⟩ : ∃ a, Fix.atv ps x = a := ⟨_, rfl⟩
    obtain ⟨b, hb⟩ : ∃ b, Fix.atv ps y = b := ⟨_, rfl⟩
    have HAX := Lib.hid ha
    have HBY := Lib.hid hb
    have HXY := Lib.hid hxy'
    clear hp hall ha hb
    go_enter Tryd.func10, Tryd.ntmps10
    go_wp2_with fail
    refine (alive_any _ HE.out).mono ?_
    rintro e w1 ⟨rfl, hb1⟩
    have R1 := Lib.hid (HR.out.below hb1)
    have B1 := Lib.hid hb1
    clear hb1
    go_wp2_with fail
    refine (fat_yes ps x A c _ R1.out HP.out).mono ?_
    rw [HAX.out]
    rintro e w2 ⟨rfl, hb2⟩
    have R2 := Lib.hid (R1.out.below hb2)
    have B2 := Lib.hid (B1.out.trans (hb2.mono B1.out.size))
    clear hb2
    go_wp2_with fail
    refine (fat_yes ps y A c _ R2.out HP.out).mono ?_
    rw [HBY.out]
    rintro e w3 ⟨rfl, hb3⟩
    have R3 := Lib.hid (R2.out.below hb3)
    have B3 := Lib.hid (B2.out.trans (hb3.mono B2.out.size))
    clear hb3
    obtain ⟨g, off, rfl, hbl, hcell⟩ := R3.out (by omega)
    obtain ⟨_, cy0⟩ := hcell 0 (by omega)
    simp only [Nat.zero_mul, Nat.add_zero] at cy0
    have HC := Lib.hid hcell
    generalize hz0 : Fix.py ps 0 = z0 at *
    have HZ0 := Lib.hid hz0
    have hpi : (0 : Int) < (ps.length : Int) := by omega
    clear hcell hz0
    go_wp2
    go_quiet (fail)
    go_wp2
    go_loopw [11, 12, 13, 14] (fun lo hi r i wr => ∃ (k : Nat) (lv hv : Int) (rv : Bool), k < ps.length ∧ i = .int .i64 ((k : Int) + 1) ∧ lo = .int .i64 lv ∧ hi = .int .i64 hv ∧ r = .bool rv ∧ (∀ j, j ≤ k → lv ≤ Fix.py ps j ∧ Fix.py ps j ≤ hv) ∧ (rv = true → ∀ j, j < k → Fix.py ps j ≤ Fix.py ps (j + 1)) ∧ Below w3.heap.size w3 wr) (fun _ _ _ i _ => ps.length + 1 - (intOf i).toNat)
    case atStart =>
      refine ⟨0, z0, z0, true, by omega, rfl, rfl, rfl, rfl, fun j hj => ?_, fun _ j hj => absurd hj (by omega), Joins.below_draws _ _ _⟩
      obtain rfl : j = 0 := by omega
      rw [HZ0.out]; omega
    case round =>
      obtain ⟨k, lv, hv, rv, hk, rfl, rfl, rfl, rfl, hlh, hup, hb⟩ := hrel
      have HLH := Lib.hid hlh
      have HUP := Lib.hid hup
      have HB := Lib.hid hb
      clear hlh hup
      by_cases hlt : k + 1 < ps.length
      · obtain ⟨_, c0⟩ := HC.out k (by omega)
        obtain ⟨_, c1⟩ := HC.out (k + 1) hlt
        have d0 : wr.cell? ⟨g, off + k * 2 + 1, none⟩ = some (.int .i64 (Fix.py ps k)) := (hb.cell (p := ⟨g, off + k * 2 + 1, none⟩) hbl).trans c0
        have d1 : wr.cell? ⟨g, off + (k + 1) * 2 + 1, none⟩ = some (.int .i64 (Fix.py ps (k + 1))) := (hb.cell (p := ⟨g, off + (k + 1) * 2 + 1, none⟩) hbl).trans c1
        have y1 := (HA.out k (by omega)).y0; have y2 := (HA.out k (by omega)).y1
        have z1 := (HA.out (k + 1) hlt).y0; have z2 := (HA.out (k + 1) hlt).y1
        clear hb c0 c1
        generalize hyy : Fix.py ps k = yv at *
        generalize hzz : Fix.py ps (k + 1) = zv at *
        have HYY := Lib.hid hyy
        have HZZ := Lib.hid hzz
        clear hyy hzz
        have i1 : ((k : Int) + 1 - 1) = k := by omega
        have i2 : IntKind.i64.wrap ((k : Int) + 1 - 1) = k := by rw [i1]; exact IntWalk.i64_in _ (by omega)
        have i3 : ((k : Int) + 1).toNat = k + 1 := by omega
        have i4 : (k : Int) + 1 < (ps.length : Int) := by omega
        have i7 : k < ps.length := by omega
        have HK := Lib.hid (And.intro i1 (And.intro i2 i3))
        cases rv
        all_goals
          go_wp2
          go_quiet (fail)
          clear i1 i2 i3
          go_wp2
          go_roundw
          case rel =>
            refine ⟨k + 1, min lv zv, max hv zv, _, hlt, by go_num, rfl, rfl, rfl, fun j hj => ?_, fun hr j hj => ?_, HB.out.trans (Joins.below_draws _ _ _)⟩
            · rcases Nat.lt_or_ge k j with h | h
              · obtain rfl : j = k + 1 := by omega
                rw [HZZ.out]; omega
              · have := HLH.out j h; omega
            · rcases Nat.lt_or_ge j k with h | h
              · first | exact absurd hr Bool.false_ne_true | exact HUP.out (by first | trivial | rfl) j h
              · obtain rfl : j = k := by omega
                rw [HYY.out, HZZ.out]
                first | exact absurd hr Bool.false_ne_true | simpa using hr
          case measure => simp [intOf]; omega
      · have hke : k + 1 = ps.length := by omega
        have hbx := Fix.atv_bd (x := x) (lo := lv) (hi := hv) (Fix.Inc.of_pts HP.out) (by omega) fun j hj => HLH.out j (by omega)
        have hby := Fix.atv_bd (x := y) (lo := lv) (hi := hv) (Fix.Inc.of_pts HP.out) (by omega) fun j hj => HLH.out j (by omega)
        rw [HAX.out] at hbx
        rw [HBY.out] at hby
        obtain ⟨u1, u2⟩ := hbx
        obtain ⟨u3, u4⟩ := hby
        have hr : rv = false ∨ (rv = true ∧ a ≤ b) := by
          cases rv
          · exact .inl rfl
          · refine .inr ⟨rfl, ?_⟩
            rw [← HAX.out, ← HBY.out]
            exact Fix.atv_mono (Fix.Inc.of_pts HP.out) (fun j hj => HUP.out rfl j (by omega)) HXY.out
        have hge : ps.length ≤ k + 1 := by omega
        clear hke hb hlt
        rcases hr with rfl | ⟨rfl, u5⟩
        all_goals
          go_wp2
          go_ret
          exact ⟨rfl, B3.out.trans (HB.out.mono B3.out.size)⟩
end Go.Proofs.YtcfikdoejmgejaaDoor
