/-
  The walk of the law QueueKeeps: a queue with groups.
-/
import Derived.Test.YthabkfmbdkgghaaQueueKeepA
namespace Go.Proofs.Ythabkfmbdkgghaa
open Go.RowKit

set_option maxRecDepth 4000 in
set_option maxHeartbeats 4000000 in
theorem lawKeeps_cons (gs : List Int) (s n k : Int) (A : Option Addr) (c : Nat) (w : World) (hr : Que.right gs s = true) (hp : 0 < gs.length) (hR : Rd w A gs) :
    Calls Try.prog 8 #[qv A gs.length c s, .int .i64 n, .int .i64 k] w fun e w' => e = .returned (.bool true) ∧ Below w.heap.size w w' := by
  have hgl := (Que.right_iff.1 hr).1
  obtain ⟨b, off, rfl, hbl, hcells⟩ := hR hp
  have HR := Lib.hid hR
  have Hr := Lib.hid hr
  have HC := Lib.hid hcells
  clear hR hr hcells
  obtain ⟨i0, hi0, hz0, hz1, hz2⟩ := info_parts int_info
  have HI := Lib.hid (And.intro hi0 (And.intro hz0 (And.intro hz1 hz2)))
  clear hi0 hz0 hz1 hz2
  go_enter Try.func8, Try.ntmps8
  go_wp2_with fail
  refine (alive_any _).mono ?_
  rintro e w1 ⟨rfl, hb1⟩
  have HRD := Lib.hid ((HR.out.below (by go_grown)).below hb1)
  obtain ⟨hc1, hf1⟩ := bcell hb1; have z1 := hb1.size; (try simp at z1); have g1 : Below w.heap.size w w1 := thru (by go_grown) hb1 (by first | omega | (simp; done) | (simp; omega)); (try have s1 : w.heap.size < w1.heap.size := by omega); (try have t1_a1 : w.heap.size < w1.heap.size + 1 := by omega); (try have t1_a2 : w.heap.size < w1.heap.size + 1 + 1 := by omega)
  go_wp2_with fail
  refine (small_true _ _ _ _ _ (by have := (Que.right_iff.1 Hr.out).1; omega)).mono ?_
  rintro e w2 ⟨rfl, rfl⟩
  go_wp2_with fail
  refine (right_any gs s _ c _ (HRD.out.below (by go_grown))).mono ?_
  rw [Hr.out]
  rintro e w3 ⟨rfl, rfl⟩
  have q0 : ((w1.alloc (.cells #[.slice (some ⟨b, off, none⟩) gs.length c, .int .i64 s] 24)).alloc (.cells #[.slice (some ⟨b, off, none⟩) gs.length c, .int .i64 s] 24)).cell? ⟨w.heap.size, 0, none⟩ = some (.slice (some ⟨b, off, none⟩) gs.length c) := by simp [go_sem, *]
  have q1 : ((w1.alloc (.cells #[.slice (some ⟨b, off, none⟩) gs.length c, .int .i64 s] 24)).alloc (.cells #[.slice (some ⟨b, off, none⟩) gs.length c, .int .i64 s] 24)).cell? ⟨w.heap.size, 1, none⟩ = some (.int .i64 s) := by simp [go_sem, *]
  have q2 : w.heap.size < ((w1.alloc (.cells #[.slice (some ⟨b, off, none⟩) gs.length c, .int .i64 s] 24)).alloc (.cells #[.slice (some ⟨b, off, none⟩) gs.length c, .int .i64 s] 24)).heap.size := by simp; omega
  have q3 : Below w.heap.size w ((w1.alloc (.cells #[.slice (some ⟨b, off, none⟩) gs.length c, .int .i64 s] 24)).alloc (.cells #[.slice (some ⟨b, off, none⟩) gs.length c, .int .i64 s] 24)) := by go_grown
  clear hc1 hf1 hb1 z1 g1 s1 t1_a1 t1_a2 HRD HR
  generalize ((w1.alloc (.cells #[.slice (some ⟨b, off, none⟩) gs.length c, .int .i64 s] 24)).alloc (.cells #[.slice (some ⟨b, off, none⟩) gs.length c, .int .i64 s] 24)) = W at *
  have hbW : b < W.heap.size := by have := q3.size; omega
  have hcW : ∀ o, W.cell? ⟨b, o, none⟩ = w.cell? ⟨b, o, none⟩ := fun o => q3.cell (p := ⟨b, o, none⟩) hbl
  obtain ⟨cs, hcs⟩ : ∃ cs, cs = gs.map (Value.int .i64) := ⟨_, rfl⟩
  have hlen : cs.length = gs.length * 1 := by rw [hcs]; simp
  have hone : ∀ v ∈ cs, v.oneCell' = true := by
    rw [hcs]; intro v hv; simp at hv; obtain ⟨x, _, rfl⟩ := hv; rfl
  have hnew : ∀ j v, cs[j]? = some v → W.cell? ⟨b, off + j, none⟩ = some v := by
    intro j v hj
    rw [hcW]
    have hjl : j < gs.length := by
      have := (List.getElem?_eq_some_iff.1 hj).1; omega
    rw [HC.out j hjl]
    rw [hcs, List.getElem?_map, List.getElem?_eq_getElem hjl] at hj
    rw [List.getElem?_eq_getElem hjl]
    simpa using hj
  have HLEN := Lib.hid hlen
  have HCS := Lib.hid hcs
  have HONE := Lib.hid hone
  have HNEW := Lib.hid hnew
  clear hlen hcs hone hnew hcW
  go_upto_region 5 with fail
  go_cut [7] (fun s7 wv => ∃ (wx : World) (g7 c7 : Nat) (A7 : Option Addr), wx = wv ∧ s7 = .pointer (some ⟨g7, 0, none⟩) ∧ g7 < wx.heap.size ∧ wx.cell? ⟨g7, 0, none⟩ = some (.slice A7 gs.length c7) ∧ wx.cell? ⟨g7, 1, none⟩ = some (.int .i64 s) ∧ Rd wx A7 gs ∧ Below W.heap.size W wx)
  case first =>
    go_region_law (first
      | (refine step_append_lies _ rfl (.tmp 28) (.tmp 30) 22 rfl (W.heap.size) 3 i0 _ 1 8 Try.underlying22 HI.out.1 HI.out.2.1 HI.out.2.2.1 HI.out.2.2.2 rfl (by omega) (.slice (some ⟨W.heap.size, 0, none⟩) 0 0) 0 [] rfl (own_zero_of (heap_alloc_new W _) (Nat.le_refl _)) ⟨b, off, none⟩ gs.length c cs (by first | (simp [Act.eval]; done) | simp [Act.eval, Act.put]) HLEN.out (fun j u hj => by rw [Go.WideShapes.add_plain]; have := HNEW.out j u hj; simp [go_sem, World.cell?_alloc_past, hbW, this]) HONE.out hp (by simp only [maxLen]; omega) (by omega) (by first | omega | (simp; done) | (simp; omega)) _ rfl ?_; intro g cap w4 hown hgrow hat hlt; have kq0 := hgrow.cell_far ⟨w.heap.size, 0, none⟩ (by first | omega | (simp; done) | (simp; omega)) (by first | (simp [Value.ownBlock]; done) | (simp [Value.ownBlock]; omega)); have kq1 := hgrow.cell_far ⟨w.heap.size, 1, none⟩ (by first | omega | (simp; done) | (simp; omega)) (by first | (simp [Value.ownBlock]; done) | (simp [Value.ownBlock]; omega)); have kz := hgrow.size; (try simp at kz); have kzq : w.heap.size < w4.heap.size := (by omega))
      | (refine step_append_lies _ rfl (.tmp 28) (.tmp 30) 22 rfl (W.heap.size) 3 i0 _ 1 8 Try.underlying22 HI.out.1 HI.out.2.1 HI.out.2.2.1 HI.out.2.2.2 rfl (by omega) (.slice (some ⟨W.heap.size, 0, none⟩) 0 0) 0 [] rfl (own_zero_of (heap_alloc2_old W _ _) (Nat.le_refl _)) ⟨b, off, none⟩ gs.length c cs (by first | (simp [Act.eval]; done) | simp [Act.eval, Act.put]) HLEN.out (fun j u hj => by rw [Go.WideShapes.add_plain]; have := HNEW.out j u hj; simp [go_sem, World.cell?_alloc_past, hbW, Nat.lt_add_right, this]) HONE.out hp (by simp only [maxLen]; omega) (by omega) (by first | omega | (simp; done) | (simp; omega)) _ rfl ?_; intro g cap w4 hown hgrow hat hlt; have kq0 := hgrow.cell_far ⟨w.heap.size, 0, none⟩ (by first | omega | (simp; done) | (simp; omega)) (by first | (simp [Value.ownBlock]; done) | (simp [Value.ownBlock]; omega)); have kq1 := hgrow.cell_far ⟨w.heap.size, 1, none⟩ (by first | omega | (simp; done) | (simp; omega)) (by first | (simp [Value.ownBlock]; done) | (simp [Value.ownBlock]; omega)); have kg0 := hgrow.cell_far ⟨W.heap.size + 1, 0, none⟩ (by first | omega | (simp; done) | (simp; omega)) (by first | (simp [Value.ownBlock]; done) | (simp [Value.ownBlock]; omega)); have fg0 := hgrow.frozen_far ⟨W.heap.size + 1, 0, none⟩ (by first | omega | (simp; done) | (simp; omega)) (by first | (simp [Value.ownBlock]; done) | (simp [Value.ownBlock]; omega)); have kg1 := hgrow.cell_far ⟨W.heap.size + 1, 1, none⟩ (by first | omega | (simp; done) | (simp; omega)) (by first | (simp [Value.ownBlock]; done) | (simp [Value.ownBlock]; omega)); have fg1 := hgrow.frozen_far ⟨W.heap.size + 1, 1, none⟩ (by first | omega | (simp; done) | (simp; omega)) (by first | (simp [Value.ownBlock]; done) | (simp [Value.ownBlock]; omega)); have kz := hgrow.size; (try simp at kz); have kzq : w.heap.size < w4.heap.size := (by omega))
      | (refine step_append_lies _ rfl (.tmp 28) (.tmp 30) 22 rfl (W.heap.size + 1) 3 i0 _ 1 8 Try.underlying22 HI.out.1 HI.out.2.1 HI.out.2.2.1 HI.out.2.2.2 rfl (by omega) (.slice (some ⟨W.heap.size + 1, 0, none⟩) 0 0) 0 [] rfl (own_zero_of (heap_alloc2_new W _ _) (Nat.le_refl _)) ⟨b, off, none⟩ gs.length c cs (by first | (simp [Act.eval]; done) | simp [Act.eval, Act.put]) HLEN.out (fun j u hj => by rw [Go.WideShapes.add_plain]; have := HNEW.out j u hj; simp [go_sem, World.cell?_alloc_past, hbW, Nat.lt_add_right, this]) HONE.out hp (by simp only [maxLen]; omega) (by omega) (by first | omega | (simp; done) | (simp; omega)) _ rfl ?_; intro g cap w4 hown hgrow hat hlt; have kq0 := hgrow.cell_far ⟨w.heap.size, 0, none⟩ (by first | omega | (simp; done) | (simp; omega)) (by first | (simp [Value.ownBlock]; done) | (simp [Value.ownBlock]; omega)); have kq1 := hgrow.cell_far ⟨w.heap.size, 1, none⟩ (by first | omega | (simp; done) | (simp; omega)) (by first | (simp [Value.ownBlock]; done) | (simp [Value.ownBlock]; omega)); have kg0 := hgrow.cell_far ⟨W.heap.size, 0, none⟩ (by first | omega | (simp; done) | (simp; omega)) (by first | (simp [Value.ownBlock]; done) | (simp [Value.ownBlock]; omega)); have fg0 := hgrow.frozen_far ⟨W.heap.size, 0, none⟩ (by first | omega | (simp; done) | (simp; omega)) (by first | (simp [Value.ownBlock]; done) | (simp [Value.ownBlock]; omega)); have kg1 := hgrow.cell_far ⟨W.heap.size, 1, none⟩ (by first | omega | (simp; done) | (simp; omega)) (by first | (simp [Value.ownBlock]; done) | (simp [Value.ownBlock]; omega)); have fg1 := hgrow.frozen_far ⟨W.heap.size, 1, none⟩ (by first | omega | (simp; done) | (simp; omega)) (by first | (simp [Value.ownBlock]; done) | (simp [Value.ownBlock]; omega)); have kz := hgrow.size; (try simp at kz); have kzq : w.heap.size < w4.heap.size := (by omega)))
    all_goals
      have hrd : Rd w4 (some ⟨g, 0, none⟩) gs := by
        have h1 := hown
        rw [HCS.out] at h1
        simp only [Nat.zero_add, List.nil_append] at h1
        exact (Own.of_owns h1).rd
      have hB4 : Below W.heap.size W w4 := Below.grown (by go_grown) hgrow (by first | (simp; done) | (simp; omega)) (fun k hk => by simp [Value.ownBlock] at hk; omega)
      have hzz := hB4.size
      clear hown hlt HONE HNEW HLEN HI
      go_wp2_with fail
      go_meet
      first
        | exact ⟨_, _, cap, some ⟨g, 0, none⟩, rfl, rfl, by simp, by simp [go_sem], by simp [go_sem], hrd.below (Joins.below_alloc1 _ _), hB4.alloc hzz _⟩
        | exact ⟨_, _, cap, some ⟨g, 0, none⟩, rfl, rfl, (by first | omega | (simp; done) | (simp; omega)), by simp [go_sem, kg0], by simp [go_sem, kg1], (hrd.set (by rcases hat with h | h <;> simp [Value.ownBlock] at h ⊢ <;> omega) _).set (by rcases hat with h | h <;> simp [Value.ownBlock] at h ⊢ <;> omega) _, (hB4.setCell (by first | omega | (simp; done) | (simp; omega)) _).setCell (by first | omega | (simp; done) | (simp; omega)) _⟩
  case rest =>
    obtain ⟨wx, g7, c7, A7, rfl, rfl, z7, k7, l7, r7, hbx⟩ := hcut
    have p0 : wx.cell? ⟨w.heap.size, 0, none⟩ = some (.slice (some ⟨b, off, none⟩) gs.length c) := (hbx.cell (p := ⟨w.heap.size, 0, none⟩) q2).trans q0
    have p1 : wx.cell? ⟨w.heap.size, 1, none⟩ = some (.int .i64 s) := (hbx.cell (p := ⟨w.heap.size, 1, none⟩) q2).trans q1
    have z0 : w.heap.size < wx.heap.size := Nat.lt_of_lt_of_le q2 hbx.size
    have hbw : Below w.heap.size w wx := thru q3 hbx (by omega)
    have hbl2 : b < wx.heap.size := Nat.lt_of_lt_of_le hbW hbx.size
    have hq : Rd wx (some ⟨b, off, none⟩) gs := fun _ => ⟨b, off, rfl, hbl2, fun i hi => (hbw.cell (p := ⟨b, off + i, none⟩) hbl).trans (HC.out i hi)⟩
    have hnx : ∀ j v, cs[j]? = some v → wx.cell? ⟨b, off + j, none⟩ = some v := fun j v hj => (hbx.cell (p := ⟨b, off + j, none⟩) hbW).trans (HNEW.out j v hj)
    have HQ := Lib.hid hq
    have HNX := Lib.hid hnx
    have H7 := Lib.hid r7
    clear hq hnx r7 q0 q1 q2 q3 hbx hbW HNEW HC
    have hmk := make_wide gs.length (by omega) wx
    have HOW := Lib.hid (own_wide gs.length (by omega) wx)
    go_wp2_with (first
      | (at_builtin; refine wpList_append_lies _ rfl (.tmp 40) (.tmp 42) 22 rfl wx.heap.size 3 i0 _ 1 8 Try.underlying22 HI.out.1 HI.out.2.1 HI.out.2.2.1 HI.out.2.2.2 rfl (by omega) (.slice (some ⟨wx.heap.size, 0, none⟩) 0 (gs.length + 9)) 0 [] rfl HOW.out ⟨b, off, none⟩ gs.length c cs rfl HLEN.out (fun j u hj => by rw [Go.WideShapes.add_plain]; have := HNX.out j u hj; simp [go_sem, World.cell?_alloc_past, hbl2, this]) HONE.out hp (by simp only [maxLen]; omega) (by omega) (by simp) _ rfl ?_; intro g cap w2 hown2 hgrow hat hlt; have hb2 : Below wx.heap.size wx w2 := Below.grown (Joins.below_alloc1 _ _) hgrow (by simp) (fun k hk => by simp [Value.ownBlock] at hk; omega); have p0 := (hb2.cell (p := ⟨w.heap.size, 0, none⟩) z0).trans p0; have p1 := (hb2.cell (p := ⟨w.heap.size, 1, none⟩) z0).trans p1)
      | fail)
    have KW : Hid (KS w g7 (some ⟨b, off, none⟩) A7 (some ⟨g, 0, none⟩) gs s c c7 w2) := Lib.hid (by
      have k7' := (hb2.cell (p := ⟨g7, 0, none⟩) z7).trans k7
      have l7' := (hb2.cell (p := ⟨g7, 1, none⟩) z7).trans l7
      have h1 := hown2
      rw [HCS.out] at h1
      simp only [Nat.zero_add, List.nil_append] at h1
      exact ⟨p0, p1, k7', l7', Nat.lt_of_lt_of_le z0 hb2.size, Nat.lt_of_lt_of_le z7 hb2.size, HQ.out.below hb2, H7.out.below hb2, (Own.of_owns h1).rd, thru hbw hb2 (by omega)⟩)
    clear hown2 hgrow hat hlt hb2 hmk HOW hbw hbl hbl2 z0 z7 k7 l7 HQ HNX H7 HCS HONE HLEN HI
    clear p0 p1
    clear p0 p1
    refine (join_gen gs s n (some ⟨g, 0, none⟩) cap _ KW.out.h8).mono ?_
    intro e w3 h3
    obtain ⟨A9, c9, e9, rfl, ho9, hb9⟩ := h3
    have hga := jo_len gs n
    obtain ⟨ga, hga'⟩ : ∃ x, x = joL gs n := ⟨_, rfl⟩
    obtain ⟨sa, hsa'⟩ : ∃ x, x = joS gs s n := ⟨_, rfl⟩
    rw [← hga', ← hsa']
    rw [← hga'] at ho9 hga
    have HGA := Lib.hid (And.intro hga' hsa')
    clear hga' hsa'
    have HO9 := Lib.hid ho9.rd
    have K3 := Lib.hid (KW.out.below hb9)
    clear ho9 hb9 KW
    obtain ⟨p0, p1, -, -, z0, -, -, -, -, -⟩ := K3.out
    go_wp2_with fail
    have K4 := Lib.hid (K3.out.below (Joins.below_alloc1 w3 (.cells #[.slice A9 ga.length c9, .int .i64 sa] 24)))
    have N9 := Lib.hid (KA.new w3 A9 c9 ga sa HO9.out)
    clear K3 HO9 p0 p1 z0
    generalize w3.alloc (.cells #[.slice A9 ga.length c9, .int .i64 sa] 24) = V3 at *
    generalize w3.heap.size = g9 at *
    refine (join_gen gs s 1 (some ⟨g, 0, none⟩) cap _ K4.out.h8).mono ?_
    intro e w4 h4
    obtain ⟨A11, c11, e11, rfl, ho11, hb11⟩ := h4
    generalize joL gs 1 = gb at *
    generalize joS gs s 1 = sb at *
    have HO11 := Lib.hid ho11
    have B11 := Lib.hid hb11
    have K5 := Lib.hid (K4.out.below hb11)
    clear ho11 hb11
    obtain ⟨p0, p1, -, -, z0, -, -, -, -, -⟩ := K5.out
    go_wp2_with fail
    have K6 := Lib.hid (K5.out.below (Joins.below_alloc1 w4 (.cells #[.slice A11 gb.length c11, .int .i64 sb] 24)))
    have N11 := Lib.hid (KA.new w4 A11 c11 gb sb HO11.out.rd)
    have O11 := Lib.hid (HO11.out.below (Joins.below_alloc1 w4 (.cells #[.slice A11 gb.length c11, .int .i64 sb] 24)))
    have C11 := Lib.hid (show Below V3.heap.size V3 (w4.alloc (.cells #[.slice A11 gb.length c11, .int .i64 sb] 24)) from B11.out.alloc B11.out.size _)
    clear K5 HO11 B11 p0 p1 z0
    generalize w4.alloc (.cells #[.slice A11 gb.length c11, .int .i64 sb] 24) = V4 at *
    generalize w4.heap.size = g11 at *
    refine (seat_gen gs s k (some ⟨b, off, none⟩) c _ Hr.out K6.out.hq).mono ?_
    intro e w5 h5
    obtain ⟨ys, u, bb, er, A13, c13, rfl, ho13, hb13⟩ := h5
    have HO13 := Lib.hid ho13
    have B13 := Lib.hid hb13
    clear ho13 hb13 K6
    have D13 := Lib.hid (show Below V4.heap.size V4 (w5.alloc (.cells #[.slice A13 ys.length c13, .int .i64 u] 24)) from B13.out.alloc B13.out.size _)
    have O13 := Lib.hid (HO13.out.below (Joins.below_alloc1 w5 (.cells #[.slice A13 ys.length c13, .int .i64 u] 24)))
    have N13 := Lib.hid (KA.new w5 A13 c13 ys u HO13.out.rd)
    clear HO13 B13
    cases ys with
    | nil =>
      go_upto_region 13 with fail
      generalize w5.alloc (.cells #[.slice A13 ([] : List Int).length c13, .int .i64 u] 24) = V5 at *
      have hX : Below V4.heap.size V4 V5 := D13.out
      clear D13 N13 O13
      generalize V5 = X at *
      have HX := Lib.hid hX
      have O11X := Lib.hid (O11.out.below hX)
      obtain ⟨m0, -, mz, -⟩ := N11.out.below hX
      clear hX
      cases gb with
      | nil =>
        go_upto_region 15 with fail
        have hY : Below V3.heap.size V3 X := thru C11.out HX.out C11.out.size
        clear m0 mz HX O11X
        generalize X = Y at *
        have KY := Lib.hid (K4.out.below hY)
        have NY := Lib.hid (N9.out.below hY)
        clear hY
        obtain ⟨p0, p1, k7, l7, z0, z7, -, -, -, -⟩ := KY.out
        go_wp2_with fail
        refine (rjoin_gen gs s n A7 c7 _ KY.out.h7).mono ?_
        intro e w6 h6
        unfold JoinAny at h6
        rw [← HGA.out.1, ← HGA.out.2] at h6
        obtain ⟨A16, c16, e16, rfl, ho16, hb16⟩ := h6
        have K6 := Lib.hid ((KY.out.below hb16).below (Joins.below_alloc1 w6 (.cells #[.slice A16 ga.length c16, .int .i64 sa] 24)))
        have NA := Lib.hid ((NY.out.below hb16).below (Joins.below_alloc1 w6 (.cells #[.slice A16 ga.length c16, .int .i64 sa] 24)))
        have N16 := Lib.hid (KA.new w6 A16 c16 ga sa ho16.rd)
        clear ho16 p0 p1 k7 l7 z0 z7
        obtain ⟨p0, p1, k7, l7, z0, z7, -, -, -, -⟩ := (KY.out.below hb16)
        clear KY NY hb16
        go_wp2_with fail
        generalize w6.alloc (.cells #[.slice A16 ga.length c16, .int .i64 sa] 24) = V6 at *
        generalize w6.heap.size = g16 at *
        refine (same_eq gs s (some ⟨b, off, none⟩) A7 c c7 _ (by omega) K6.out.hq K6.out.h7).mono ?_
        rintro e w7 ⟨rfl, hb7⟩
        have K7 := Lib.hid (K6.out.be)
        have R9 := Lib.hid (NA.out.below hb7)
        have R16 := Lib.hid (N16.out.below hb7)
        have Z6 := Lib.hid K6.out.z0
        obtain ⟨a0, a1, az, -⟩ := NA.out.below hb7
        obtain ⟨b0, b1, bz, -⟩ := N16.out.below hb7
        clear p0 p1 k7 l7 z0 z7
        go_wp2_with fail
        refine (same_eq ga sa A9 A16 c9 c16 _ (by omega) R9.out.rd R16.out.rd).mono ?_
        rintro e w8 ⟨rfl, hb8⟩
        have hfin : Below w.heap.size w w8 := thru (thru K7.out hb7 (Nat.le_of_lt Z6.out)) hb8 (Nat.le_trans (Nat.le_of_lt Z6.out) hb7.size)
        clear a0 a1 az b0 b1 bz
        go_wp2
        go_ret
        exact ⟨rfl, hfin⟩
      | cons z zr =>
        simp only [List.length_cons] at m0
        obtain ⟨bd, od, rfl, hBd, hzd, hcd, hfd⟩ := O11X.out (by simp)
        have hx : X.cell? ⟨bd, od, none⟩ = some (.int .i64 z) := by simpa using hcd 0 (by simp)
        have hf : X.frozen? ⟨bd, od, none⟩ = false := by simpa using hfd 0
        have hY := Lib.hid (fun v => ((thru C11.out HX.out C11.out.size).setCell (p := ⟨bd, od, none⟩) hBd v).drew)
        clear hcd hfd O11X HX
        go_upto_region 14 with fail
        go_region
        go_upto_region 15 with fail
        have hY := hY.out (.int .i64 (wrap64 (z + 1)))
        generalize (X.setCell ⟨bd, od, none⟩ (.int .i64 (wrap64 (z + 1)))).drew = Y at *
        clear hx hf m0 mz hBd hzd
        have KY := Lib.hid (K4.out.below hY)
        have NY := Lib.hid (N9.out.below hY)
        clear hY
        obtain ⟨p0, p1, k7, l7, z0, z7, -, -, -, -⟩ := KY.out
        go_wp2_with fail
        refine (rjoin_gen gs s n A7 c7 _ KY.out.h7).mono ?_
        intro e w6 h6
        unfold JoinAny at h6
        rw [← HGA.out.1, ← HGA.out.2] at h6
        obtain ⟨A16, c16, e16, rfl, ho16, hb16⟩ := h6
        have K6 := Lib.hid ((KY.out.below hb16).below (Joins.below_alloc1 w6 (.cells #[.slice A16 ga.length c16, .int .i64 sa] 24)))
        have NA := Lib.hid ((NY.out.below hb16).below (Joins.below_alloc1 w6 (.cells #[.slice A16 ga.length c16, .int .i64 sa] 24)))
        have N16 := Lib.hid (KA.new w6 A16 c16 ga sa ho16.rd)
        clear ho16 p0 p1 k7 l7 z0 z7
        obtain ⟨p0, p1, k7, l7, z0, z7, -, -, -, -⟩ := (KY.out.below hb16)
        clear KY NY hb16
        go_wp2_with fail
        generalize w6.alloc (.cells #[.slice A16 ga.length c16, .int .i64 sa] 24) = V6 at *
        generalize w6.heap.size = g16 at *
        refine (same_eq gs s (some ⟨b, off, none⟩) A7 c c7 _ (by omega) K6.out.hq K6.out.h7).mono ?_
        rintro e w7 ⟨rfl, hb7⟩
        have K7 := Lib.hid (K6.out.be)
        have R9 := Lib.hid (NA.out.below hb7)
        have R16 := Lib.hid (N16.out.below hb7)
        have Z6 := Lib.hid K6.out.z0
        obtain ⟨a0, a1, az, -⟩ := NA.out.below hb7
        obtain ⟨b0, b1, bz, -⟩ := N16.out.below hb7
        clear p0 p1 k7 l7 z0 z7
        go_wp2_with fail
        refine (same_eq ga sa A9 A16 c9 c16 _ (by omega) R9.out.rd R16.out.rd).mono ?_
        rintro e w8 ⟨rfl, hb8⟩
        have hfin : Below w.heap.size w w8 := thru (thru K7.out hb7 (Nat.le_of_lt Z6.out)) hb8 (Nat.le_trans (Nat.le_of_lt Z6.out) hb7.size)
        clear a0 a1 az b0 b1 bz
        go_wp2
        go_ret
        exact ⟨rfl, hfin⟩
    | cons y yr =>
      go_upto_region 12 with fail
      simp only [List.length_cons] at *
      generalize w5.alloc (.cells #[.slice A13 (yr.length + 1) c13, .int .i64 u] 24) = V5 at *
      obtain ⟨bc, oc, rfl, hBc, hzc, hcc, hfc⟩ := O13.out (by simp)
      have hx : V5.cell? ⟨bc, oc, none⟩ = some (.int .i64 y) := by simpa using hcc 0 (by simp)
      have hf : V5.frozen? ⟨bc, oc, none⟩ = false := by simpa using hfc 0
      have m0 := N13.out.a0
      have hX := Lib.hid (fun v => (D13.out.setCell (p := ⟨bc, oc, none⟩) hBc v).drew)
      clear hcc hfc D13 N13 O13
      simp only [List.length_cons] at m0
      go_region
      go_upto_region 13 with fail
      have hX := hX.out (.int .i64 (wrap64 (y + 1)))
      generalize (V5.setCell ⟨bc, oc, none⟩ (.int .i64 (wrap64 (y + 1)))).drew = X at *
      clear hx hf m0 hBc hzc
      have HX := Lib.hid hX
      have O11X := Lib.hid (O11.out.below hX)
      obtain ⟨m0, -, mz, -⟩ := N11.out.below hX
      clear hX
      cases gb with
      | nil =>
        go_upto_region 15 with fail
        have hY : Below V3.heap.size V3 X := thru C11.out HX.out C11.out.size
        clear m0 mz HX O11X
        generalize X = Y at *
        have KY := Lib.hid (K4.out.below hY)
        have NY := Lib.hid (N9.out.below hY)
        clear hY
        obtain ⟨p0, p1, k7, l7, z0, z7, -, -, -, -⟩ := KY.out
        go_wp2_with fail
        refine (rjoin_gen gs s n A7 c7 _ KY.out.h7).mono ?_
        intro e w6 h6
        unfold JoinAny at h6
        rw [← HGA.out.1, ← HGA.out.2] at h6
        obtain ⟨A16, c16, e16, rfl, ho16, hb16⟩ := h6
        have K6 := Lib.hid ((KY.out.below hb16).below (Joins.below_alloc1 w6 (.cells #[.slice A16 ga.length c16, .int .i64 sa] 24)))
        have NA := Lib.hid ((NY.out.below hb16).below (Joins.below_alloc1 w6 (.cells #[.slice A16 ga.length c16, .int .i64 sa] 24)))
        have N16 := Lib.hid (KA.new w6 A16 c16 ga sa ho16.rd)
        clear ho16 p0 p1 k7 l7 z0 z7
        obtain ⟨p0, p1, k7, l7, z0, z7, -, -, -, -⟩ := (KY.out.below hb16)
        clear KY NY hb16
        go_wp2_with fail
        generalize w6.alloc (.cells #[.slice A16 ga.length c16, .int .i64 sa] 24) = V6 at *
        generalize w6.heap.size = g16 at *
        refine (same_eq gs s (some ⟨b, off, none⟩) A7 c c7 _ (by omega) K6.out.hq K6.out.h7).mono ?_
        rintro e w7 ⟨rfl, hb7⟩
        have K7 := Lib.hid (K6.out.be)
        have R9 := Lib.hid (NA.out.below hb7)
        have R16 := Lib.hid (N16.out.below hb7)
        have Z6 := Lib.hid K6.out.z0
        obtain ⟨a0, a1, az, -⟩ := NA.out.below hb7
        obtain ⟨b0, b1, bz, -⟩ := N16.out.below hb7
        clear p0 p1 k7 l7 z0 z7
        go_wp2_with fail
        refine (same_eq ga sa A9 A16 c9 c16 _ (by omega) R9.out.rd R16.out.rd).mono ?_
        rintro e w8 ⟨rfl, hb8⟩
        have hfin : Below w.heap.size w w8 := thru (thru K7.out hb7 (Nat.le_of_lt Z6.out)) hb8 (Nat.le_trans (Nat.le_of_lt Z6.out) hb7.size)
        clear a0 a1 az b0 b1 bz
        go_wp2
        go_ret
        exact ⟨rfl, hfin⟩
      | cons z zr =>
        simp only [List.length_cons] at m0
        obtain ⟨bd, od, rfl, hBd, hzd, hcd, hfd⟩ := O11X.out (by simp)
        have hx : X.cell? ⟨bd, od, none⟩ = some (.int .i64 z) := by simpa using hcd 0 (by simp)
        have hf : X.frozen? ⟨bd, od, none⟩ = false := by simpa using hfd 0
        have hY := Lib.hid (fun v => ((thru C11.out HX.out C11.out.size).setCell (p := ⟨bd, od, none⟩) hBd v).drew)
        clear hcd hfd O11X HX
        go_upto_region 14 with fail
        go_region
        go_upto_region 15 with fail
        have hY := hY.out (.int .i64 (wrap64 (z + 1)))
        generalize (X.setCell ⟨bd, od, none⟩ (.int .i64 (wrap64 (z + 1)))).drew = Y at *
        clear hx hf m0 mz hBd hzd
        have KY := Lib.hid (K4.out.below hY)
        have NY := Lib.hid (N9.out.below hY)
        clear hY
        obtain ⟨p0, p1, k7, l7, z0, z7, -, -, -, -⟩ := KY.out
        go_wp2_with fail
        refine (rjoin_gen gs s n A7 c7 _ KY.out.h7).mono ?_
        intro e w6 h6
        unfold JoinAny at h6
        rw [← HGA.out.1, ← HGA.out.2] at h6
        obtain ⟨A16, c16, e16, rfl, ho16, hb16⟩ := h6
        have K6 := Lib.hid ((KY.out.below hb16).below (Joins.below_alloc1 w6 (.cells #[.slice A16 ga.length c16, .int .i64 sa] 24)))
        have NA := Lib.hid ((NY.out.below hb16).below (Joins.below_alloc1 w6 (.cells #[.slice A16 ga.length c16, .int .i64 sa] 24)))
        have N16 := Lib.hid (KA.new w6 A16 c16 ga sa ho16.rd)
        clear ho16 p0 p1 k7 l7 z0 z7
        obtain ⟨p0, p1, k7, l7, z0, z7, -, -, -, -⟩ := (KY.out.below hb16)
        clear KY NY hb16
        go_wp2_with fail
        generalize w6.alloc (.cells #[.slice A16 ga.length c16, .int .i64 sa] 24) = V6 at *
        generalize w6.heap.size = g16 at *
        refine (same_eq gs s (some ⟨b, off, none⟩) A7 c c7 _ (by omega) K6.out.hq K6.out.h7).mono ?_
        rintro e w7 ⟨rfl, hb7⟩
        have K7 := Lib.hid (K6.out.be)
        have R9 := Lib.hid (NA.out.below hb7)
        have R16 := Lib.hid (N16.out.below hb7)
        have Z6 := Lib.hid K6.out.z0
        obtain ⟨a0, a1, az, -⟩ := NA.out.below hb7
        obtain ⟨b0, b1, bz, -⟩ := N16.out.below hb7
        clear p0 p1 k7 l7 z0 z7
        go_wp2_with fail
        refine (same_eq ga sa A9 A16 c9 c16 _ (by omega) R9.out.rd R16.out.rd).mono ?_
        rintro e w8 ⟨rfl, hb8⟩
        have hfin : Below w.heap.size w w8 := thru (thru K7.out hb7 (Nat.le_of_lt Z6.out)) hb8 (Nat.le_trans (Nat.le_of_lt Z6.out) hb7.size)
        clear a0 a1 az b0 b1 bz
        go_wp2
        go_ret
        exact ⟨rfl, hfin⟩
end Go.Proofs.Ythabkfmbdkgghaa
