/-
  The plan of the groomers of the example.
-/
import Derived.Test.YtljhocdbfbjpiaaRouteH
import Derived.Deep.DeepCutAuto
import Derived.Deep.RegionHeld3
namespace Go.Proofs.Ytljhocdbfbjpiaa
open Go.RowKit

theorem clash_info : (Try.prog.info? 68).map (fun i => (i.zero, i.size, i.bytes)) = some (some (.slice none 0 0), 1, 24) := by kernel_rfl
theorem shift_info : (Try.prog.info? 163).map (fun i => (i.zero, i.size, i.bytes)) = some (some (.agg #[.int .i64 0, .int .i64 0, .int .i64 0, .int .i64 0]), 4, 32) := by kernel_rfl
theorem bool_info : (Try.prog.info? 4).map (fun i => (i.zero, i.size, i.bytes)) = some (some (.bool false), 1, 1) := by kernel_rfl
theorem make_clash (w : World) : (Instr.makeSlice 123 (.int .i64 2) (.int .i64 2)).run Try.prog w = .ok (.slice (some ⟨w.heap.size, 0, none⟩) 2 2) (w.alloc (.cells #[.slice none 0 0, .slice none 0 0] 68)) := by
  have h := run_make_row' (P := Try.prog) 123 68 (.slice none 0 0) 24 Try.underlying123 clash_info rfl .i64 .i64 2 (by omega) (by omega) w
  have e : madeCells #[.slice none 0 0] 2 = #[.slice none 0 0, .slice none 0 0] := by
    apply Array.toList_inj.1
    rw [toList_madeCells_one]; rfl
  rw [e] at h
  exact h
theorem made_eight : madeCells (Value.agg #[.int .i64 0, .int .i64 0, .int .i64 0, .int .i64 0]).cells 8 = (shC Sh.zero ++ shC Sh.zero).toArray := by kernel_rfl
theorem make_shifts (w : World) : (Instr.makeSlice 66 (.int .i64 2) (.int .i64 2)).run Try.prog w = .ok (.slice (some ⟨w.heap.size, 0, none⟩) 2 2) (w.alloc (.cells (shC Sh.zero ++ shC Sh.zero).toArray 163)) := by
  obtain ⟨i, hi, hz0, hz1, hz2⟩ := info_parts shift_info
  have hr := run_make (P := Try.prog) w 66 163 i _ Try.underlying66 hi hz0 .i64 .i64 2 2 (by omega) (by omega) (by rw [hz2]; omega) (by omega)
  rw [hz1] at hr
  rw [← made_eight]
  exact hr
def searchC (b q cl pl bs : Nat) : Array Value := #[.slice (some ⟨b, 0, none⟩) 2 2, .slice (some ⟨q, 0, none⟩) 2 2, .slice (some ⟨cl, 0, none⟩) 2 2, .slice (some ⟨pl, 0, none⟩) 2 2, .slice (some ⟨bs, 0, none⟩) 2 2, .int .i64 1]
theorem BV.start {w w1 wy : World} {S cl pl bs b q : Nat} (hb1 : Below w.heap.size w w1) (hb : Below w1.heap.size w1 wy) (hb0 : b < w.heap.size) (hq0 : q < w.heap.size) (h4 : w1.heap.size + 4 ≤ wy.heap.size)
    (hS : wy.heap[S]? = some (.cells (searchC b q cl pl bs) 125 (0, 0))) (hc : wy.heap[cl]? = some (.cells #[.slice none 0 0, .slice none 0 0] 68 (0, 0)))
    (hp : wy.heap[pl]? = some (.cells (shC Sh.zero ++ shC Sh.zero).toArray 163 (0, 0))) (hs : wy.heap[bs]? = some (.cells (shC Sh.zero ++ shC Sh.zero).toArray 163 (0, 0)))
    (l : w1.heap.size ≤ S ∧ w1.heap.size ≤ cl ∧ w1.heap.size ≤ pl ∧ w1.heap.size ≤ bs) (u : S < w1.heap.size + 4 ∧ cl < w1.heap.size + 4 ∧ pl < w1.heap.size + 4 ∧ bs < w1.heap.size + 4)
    (n : S ≠ cl ∧ S ≠ pl ∧ S ≠ bs ∧ cl ≠ pl ∧ cl ≠ bs ∧ pl ≠ bs) : BV ⟨S, cl, pl, bs, w1.heap.size + 4, b, q, w.heap.size⟩ w wy 0 0 1 := by
  have hz := hb1.size
  have C : ∀ {g : Nat} {cs : Array Value} {t : TypeId} (j : Nat) {v : Value}, wy.heap[g]? = some (.cells cs t (0, 0)) → cs[j]? = some v → wy.cell? ⟨g, j, none⟩ = some v := fun j v h e => by rw [cell_of_row _ _ _ _ _ _ h]; exact e
  refine ⟨⟨by show w.heap.size ≤ S; omega, by show w.heap.size ≤ cl; omega, by show w.heap.size ≤ pl; omega, by show w.heap.size ≤ bs; omega, u.1, u.2.1, u.2.2.1, u.2.2.2, hb0, hq0, n.1, n.2.1, n.2.2.1, n.2.2.2.1, n.2.2.2.2.1, n.2.2.2.2.2⟩, hb1.trans (hb.mono hz), h4, C 0 hS rfl, C 1 hS rfl, C 2 hS rfl, C 3 hS rfl, C 4 hS rfl, C 5 hS rfl,
    ⟨none, 0, none, 0, C 0 hc rfl, World.ownsRow_nil _ _ _ _, C 1 hc rfl, World.ownsRow_nil _ _ _ _, fun g hg => by simp [Value.ownBlock] at hg, fun _ => rfl, fun _ => rfl⟩, fun k hk => ?_, hs, fun k => frozen_of_row _ _ _ _ _ hS, fun k => frozen_of_row _ _ _ _ _ hc, fun k => frozen_of_row _ _ _ _ _ hp⟩
  refine C k hp ?_
  obtain rfl | rfl | rfl | rfl | rfl | rfl | rfl | rfl : k = 0 ∨ k = 1 ∨ k = 2 ∨ k = 3 ∨ k = 4 ∨ k = 5 ∨ k = 6 ∨ k = 7 := by omega
  all_goals rfl
theorem BV.r0 {L : BL} {w W : World} {n1 : Nat} {e : Int} (h : BV L w W 0 n1 e) {t : Nat} : ∀ v, W.cell? ⟨L.cl, 0, none⟩ = some v → v.ownBlock ≠ some t := fun v hv => by
  obtain ⟨A0, c0, A1, c1, r1, r2, r3, r4, r5, r6, r7⟩ := h.r
  rw [r1] at hv
  injection hv with hv
  rw [← hv, r6 rfl]; simp [Value.ownBlock]
theorem BV.r1 {L : BL} {w W : World} {n0 : Nat} {e : Int} (h : BV L w W n0 0 e) {t : Nat} : ∀ v, W.cell? ⟨L.cl, 1, none⟩ = some v → v.ownBlock ≠ some t := fun v hv => by
  obtain ⟨A0, c0, A1, c1, r1, r2, r3, r4, r5, r6, r7⟩ := h.r
  rw [r3] at hv
  injection hv with hv
  rw [← hv, r7 rfl]; simp [Value.ownBlock]
theorem h4_0 (w : World) (a b c d : Obj) : ((((w.alloc a).alloc b).alloc c).alloc d).heap[w.heap.size]? = some a := by
  rw [heap_alloc_old _ _ (by simp; omega), heap_alloc_old _ _ (by simp; omega), heap_alloc_old _ _ (by simp)]; exact heap_alloc_new _ _
theorem h4_1 (w : World) (a b c d : Obj) : ((((w.alloc a).alloc b).alloc c).alloc d).heap[w.heap.size + 1]? = some b := by
  rw [heap_alloc_old _ _ (by simp), heap_alloc_old _ _ (by simp)]
  have h := heap_alloc_new (w.alloc a) b
  rw [World.size_alloc] at h; exact h
theorem h4_2 (w : World) (a b c d : Obj) : ((((w.alloc a).alloc b).alloc c).alloc d).heap[w.heap.size + 1 + 1]? = some c := by
  rw [heap_alloc_old _ _ (by simp)]
  have h := heap_alloc_new ((w.alloc a).alloc b) c
  rw [World.size_alloc, World.size_alloc] at h; exact h
theorem h4_3 (w : World) (a b c d : Obj) : ((((w.alloc a).alloc b).alloc c).alloc d).heap[w.heap.size + 1 + 1 + 1]? = some d := by
  have h := heap_alloc_new (((w.alloc a).alloc b).alloc c) d
  rw [World.size_alloc, World.size_alloc, World.size_alloc] at h; exact h

set_option maxRecDepth 20000 in
set_option maxHeartbeats 4000000 in
theorem robest_any (b q : Nat) (w : World) (hM : Tsk w b) (hb : b < w.heap.size) (hq : q < w.heap.size) (hq0 : w.cell? ⟨q, 0, none⟩ = some (.bool false)) (hq1 : w.cell? ⟨q, 1, none⟩ = some (.bool false)) :
    Calls Try.prog 19 #[.slice (some ⟨b, 0, none⟩) 2 2, .slice (some ⟨q, 0, none⟩) 2 2] w fun e w' => (∃ g, e = .returned (.slice (some ⟨g, 0, none⟩) 2 2) ∧ g < w'.heap.size ∧ w'.heap[g]? = some (.cells (shC bestA ++ shC bestB).toArray 163 (0, 0))) ∧ Below w.heap.size w w' := by
  obtain ⟨i0, hi0, hz0, hz1, hz2⟩ := info_parts bool_info
  have HI := Lib.hid (And.intro hi0 (And.intro hz0 (And.intro hz1 hz2)))
  have HM := Lib.hid hM
  have HQ := Lib.hid (And.intro hq0 hq1)
  have HZ := Lib.hid (And.intro hb hq)
  have hmc := make_clash
  have hms := make_shifts
  clear hM hq0 hq1 hi0 hz0 hz1 hz2
  go_enter Try.func19, Try.ntmps19
  go_wp2_with fail
  refine (roright_any b q w HM.out HZ.out.1).mono ?_
  rintro e w1 ⟨rfl, hb1⟩
  have HB1 := Lib.hid hb1
  clear hb1
  go_upto_region 3 with fail
  go_cut [5, 18, 21, 24] from 14 to 25 (fun s5 s18 s21 s24 wx => ∃ (L : BL) (wy : World), wy = wx ∧ s5 = .pointer (some ⟨L.S, 0, none⟩) ∧ s18 = .slice (some ⟨L.cl, 0, none⟩) 2 2 ∧ s21 = .slice (some ⟨L.pl, 0, none⟩) 2 2 ∧ s24 = .slice (some ⟨L.bs, 0, none⟩) 2 2 ∧ L.b = b ∧ L.q = q ∧ L.B = w.heap.size ∧ BV L w wy 0 0 1)
  case first =>
    go_region
    all_goals
      go_wp2_with fail
      go_meet
      refine ⟨⟨_, _, _, _, w1.heap.size + 4, b, q, w.heap.size⟩, _, rfl, rfl, rfl, rfl, rfl, rfl, rfl, rfl, ?_⟩
      have hsz : w1.heap.toList.length = w1.heap.size := rfl
      exact BV.start HB1.out (by first | go_grown | exact below_drew (by go_grown)) HZ.out.1 HZ.out.2 (by simp) (by first | exact h4_0 w1 _ _ _ _ | exact h4_1 w1 _ _ _ _ | exact h4_2 w1 _ _ _ _ | exact h4_3 w1 _ _ _ _) (by first | exact h4_0 w1 _ _ _ _ | exact h4_1 w1 _ _ _ _ | exact h4_2 w1 _ _ _ _ | exact h4_3 w1 _ _ _ _) (by first | exact h4_0 w1 _ _ _ _ | exact h4_1 w1 _ _ _ _ | exact h4_2 w1 _ _ _ _ | exact h4_3 w1 _ _ _ _) (by first | exact h4_0 w1 _ _ _ _ | exact h4_1 w1 _ _ _ _ | exact h4_2 w1 _ _ _ _ | exact h4_3 w1 _ _ _ _) (by omega) (by omega) (by omega)
  case rest =>
    obtain ⟨L, wx, rfl, rfl, rfl, rfl, rfl, hLb, hLq, hLB, hV⟩ := hcut
    have HV0 := Lib.hid hV
    have HL := Lib.hid (And.intro hLb (And.intro hLq hLB))
    clear hV hLb hLq hLB hmc hms HB1
    go_wp2
    go_loopw [28] (fun j wr => (j = .int .i64 0 ∧ BV L w wr 0 0 1) ∨ (j = .int .i64 1 ∧ BV L w wr 2 0 11) ∨ (j = .int .i64 2 ∧ BV L w wr 2 2 31)) (fun j _ => 2 - (intOf j).toNat)
    case atStart => exact .inl ⟨rfl, HV0.out⟩
    case round =>
      rcases hrel with ⟨rfl, hV⟩ | ⟨rfl, hV⟩ | ⟨rfl, hV⟩
      · have hbw : Below w.heap.size w wr := by have h := hV.be; rw [HL.out.2.2] at h; exact h
        obtain ⟨a0, a1, a2, a3, b0, b1, b2, b3⟩ := HM.out.on HZ.out.1 hbw
        have hV2 := (hV.setE 11).on (Joins.below_alloc1 (wr.setCell ⟨L.S, 5, none⟩ (.int .i64 11)) (.cells #[.int .i64 1, .int .i64 10, .bool false, .slice none 0 0] 64))
        have HV := Lib.hid hV
        have HV2 := Lib.hid hV2
        have zb : b < wr.heap.size := Nat.lt_of_lt_of_le HZ.out.1 hbw.size
        have s5 := hV.s5
        have f5 := hV.f5 5
        have zS : L.S < wr.heap.size := Nat.lt_of_lt_of_le hV.n.S2 hV.zF
        clear hV hV2 hbw
        rename World => wo
        go_wp2
        go_loopw [41] (fun j wi => ((j = .int .i64 0 ∧ BV L w wi 0 0 11) ∨ (j = .int .i64 1 ∧ BV L w wi 1 0 11) ∨ (j = .int .i64 2 ∧ BV L w wi 2 0 11)) ∧ wi.cell? ⟨wo.heap.size, 0, none⟩ = some (.int .i64 1) ∧ wi.cell? ⟨wo.heap.size, 1, none⟩ = some (.int .i64 10) ∧ wi.cell? ⟨wo.heap.size, 2, none⟩ = some (.bool false) ∧ wi.cell? ⟨wo.heap.size, 3, none⟩ = some (.slice none 0 0) ∧ wo.heap.size < wi.heap.size ∧ (∀ v, wi.cell? ⟨L.cl, 0, none⟩ = some v → v.ownBlock ≠ some wo.heap.size)) (fun j _ => 2 - (intOf j).toNat)
        case atStart => exact ⟨.inl ⟨rfl, HV2.out⟩, by simp [go_sem], by simp [go_sem], by simp [go_sem], by simp [go_sem], by simp, HV2.out.r0⟩
        case round =>
          obtain ⟨hj, t0, t1, t2, t3, zt, hnb⟩ := hrel
          have ht9 : L.F ≤ wo.heap.size := HV.out.zF
          have hS9 : L.S < wo.heap.size := zS
          clear s5 f5 zS a0 a1 a2 a3 b0 b1 b2 b3 zb
          generalize wo.heap.size = t9 at *
          rcases hj with ⟨rfl, hV3⟩ | ⟨rfl, hV3⟩ | ⟨rfl, hV3⟩
          all_goals
            have hbw : Below w.heap.size w wr := by have h := hV3.be; rw [HL.out.2.2] at h; exact h
            obtain ⟨a0, a1, a2, a3, b0, b1, b2, b3⟩ := HM.out.on HZ.out.1 hbw
            have zb : b < wr.heap.size := Nat.lt_of_lt_of_le HZ.out.1 hbw.size
            have HV3 := Lib.hid hV3
            clear hbw hV3
          · have hn := HV3.out.n
            obtain ⟨A0, c0, A1, c1, r1, r2, r3, r4, r5, r6, r7⟩ := HV3.out.r
            have HR2 := Lib.hid r2
            have hW := HV3.out.on (Joins.below_alloc1 wr (.cells #[.int .i64 1, .int .i64 10, .bool false, .slice none 0 0] 64))
            have HVW := Lib.hid hW
            have s2 := HV3.out.s2
            have rr := r1
            have zS : L.S < wr.heap.size := Nat.lt_of_lt_of_le hn.S2 HV3.out.zF
            have zc : L.cl < wr.heap.size := Nat.lt_of_lt_of_le hn.c2 HV3.out.zF
            have HOW := Lib.hid (owns_on r2 (Joins.below_alloc1 wr (.cells #[.int .i64 1, .int .i64 10, .bool false, .slice none 0 0] 64)))
            have zF := HV3.out.zF
            have HNB := Lib.hid (hnb _ rr)
            have hSc : L.cl ≠ L.S := hn.Sc.symm
            have hct : L.cl ≠ t9 := by have := hn.c2; omega
            have hcu : L.cl ≠ wr.heap.size := by have := hn.c2; have := HV3.out.zF; omega
            have HGU : Hid (∀ k, Value.ownBlock (.slice A0 0 c0) = some k → k < wr.heap.size) := Lib.hid (fun k hk => (r2.lt k hk).2)
            have HFC : Hid (∀ k, wr.frozen? ⟨L.cl, k, none⟩ = false) := Lib.hid HV3.out.fc
            clear r2 r4 r5 r6 r7 hn r1 r3 hW hnb
            go_upto_region 11 with fail
            have u0 : (wr.alloc (.cells #[.int .i64 1, .int .i64 10, .bool false, .slice none 0 0] 64)).cell? ⟨wr.heap.size, 0, none⟩ = some (.int .i64 1) := by simp [go_sem]
            have u1 : (wr.alloc (.cells #[.int .i64 1, .int .i64 10, .bool false, .slice none 0 0] 64)).cell? ⟨wr.heap.size, 1, none⟩ = some (.int .i64 10) := by simp [go_sem]
            have u2 : (wr.alloc (.cells #[.int .i64 1, .int .i64 10, .bool false, .slice none 0 0] 64)).cell? ⟨wr.heap.size, 2, none⟩ = some (.bool false) := by simp [go_sem]
            have u3 : (wr.alloc (.cells #[.int .i64 1, .int .i64 10, .bool false, .slice none 0 0] 64)).cell? ⟨wr.heap.size, 3, none⟩ = some (.slice none 0 0) := by simp [go_sem]
            have hbx := Joins.below_alloc1 wr (.cells #[.int .i64 1, .int .i64 10, .bool false, .slice none 0 0] 64)
            replace s2 := (hbx.cell (p := ⟨L.S, 2, none⟩) zS).trans s2
            replace rr := (hbx.cell (p := ⟨L.cl, 0, none⟩) zc).trans rr
            replace t0 := (hbx.cell (p := ⟨t9, 0, none⟩) zt).trans t0
            replace t1 := (hbx.cell (p := ⟨t9, 1, none⟩) zt).trans t1
            replace t2 := (hbx.cell (p := ⟨t9, 2, none⟩) zt).trans t2
            replace t3 := (hbx.cell (p := ⟨t9, 3, none⟩) zt).trans t3
            have zu : wr.heap.size < (wr.alloc (.cells #[.int .i64 1, .int .i64 10, .bool false, .slice none 0 0] 64)).heap.size := by simp
            replace zS := Nat.lt_of_lt_of_le zS hbx.size
            replace zc := Nat.lt_of_lt_of_le zc hbx.size
            replace zt := Nat.lt_of_lt_of_le zt hbx.size
            have hu9 : L.F ≤ wr.heap.size := zF
            clear hbx a0 a1 a2 a3 b0 b1 b2 b3 zb zF HV3
            have HV3 := HVW
            clear HVW HR2
            have HR2 := HOW
            clear HOW
            generalize wr.heap.size = u9 at *
            generalize wr.alloc (.cells #[.int .i64 1, .int .i64 10, .bool false, .slice none 0 0] 64) = W at *
            refine wp_region_held_drew (S := fun w' => w'.cell? ⟨L.S, 2, none⟩ = some (.slice (some ⟨L.cl, 0, none⟩) 2 2) ∧ w'.cell? ⟨t9, 0, none⟩ = some (.int .i64 1) ∧ w'.cell? ⟨t9, 1, none⟩ = some (.int .i64 10) ∧ w'.cell? ⟨t9, 2, none⟩ = some (.bool false) ∧ w'.cell? ⟨t9, 3, none⟩ = some (.slice none 0 0) ∧ w'.cell? ⟨u9, 0, none⟩ = some (.int .i64 1) ∧ w'.cell? ⟨u9, 1, none⟩ = some (.int .i64 10) ∧ w'.cell? ⟨u9, 2, none⟩ = some (.bool false) ∧ w'.cell? ⟨u9, 3, none⟩ = some (.slice none 0 0)) (by kernel_rfl) ?_ (fun hHeld => ?_)
            · (try dsimp only); exact ⟨s2, t0, t1, t2, t3, u0, u1, u2, u3⟩
            refine wpAnyH_take (i := 0) (oi := ?oi00_0) (v := ?v00_0) ?hi00_0 ?ha00_0 ?hb00_0 ?hc00_0 ?hq00_0 (Or.inl ⟨?hw00_0, ?hy00_0⟩) (by assumption) ?rest00_0
            case hi00_0 => simp only [List.getElem?_toArray, List.getElem?_cons_zero]; rfl
            case ha00_0 => kernel_rfl
            case hb00_0 => kernel_rfl
            case hc00_0 => kernel_rfl
            case hq00_0 => exact fun _ _ _ h => h
            case hw00_0 => kernel_rfl
            case hy00_0 => intro w hSw; (try dsimp only at hSw); go_simp; (try with_reducible rfl)
            (try simp only [Act.put, List.setIfInBounds_toArray, List.set_cons_zero, List.set_cons_succ])
            refine wpAnyH_take (i := 1) (oi := ?oi00_1) (v := ?v00_1) ?hi00_1 ?ha00_1 ?hb00_1 ?hc00_1 ?hq00_1 (Or.inl ⟨?hw00_1, ?hy00_1⟩) (by assumption) ?rest00_1
            case hi00_1 => simp only [List.getElem?_toArray, List.getElem?_cons_succ, List.getElem?_cons_zero]; rfl
            case ha00_1 => kernel_rfl
            case hb00_1 => kernel_rfl
            case hc00_1 => kernel_rfl
            case hq00_1 => exact fun _ _ _ h => h
            case hw00_1 => kernel_rfl
            case hy00_1 => intro w hSw; (try dsimp only at hSw); go_simp; (try with_reducible rfl)
            (try simp only [Act.put, List.setIfInBounds_toArray, List.set_cons_zero, List.set_cons_succ])
            refine wpAnyH_take (i := 2) (oi := ?oi00_2) (v := ?v00_2) ?hi00_2 ?ha00_2 ?hb00_2 ?hc00_2 ?hq00_2 (Or.inl ⟨?hw00_2, ?hy00_2⟩) (by assumption) ?rest00_2
            case hi00_2 => simp only [List.getElem?_toArray, List.getElem?_cons_succ, List.getElem?_cons_zero]; rfl
            case ha00_2 => kernel_rfl
            case hb00_2 => kernel_rfl
            case hc00_2 => kernel_rfl
            case hq00_2 => exact fun _ _ _ h => h
            case hw00_2 => kernel_rfl
            case hy00_2 => intro w hSw; (try dsimp only at hSw); go_simp; (try with_reducible rfl)
            (try simp only [Act.put, List.setIfInBounds_toArray, List.set_cons_zero, List.set_cons_succ])
            refine wpAnyH_take (i := 3) (oi := ?oi00_3) (v := ?v00_3) ?hi00_3 ?ha00_3 ?hb00_3 ?hc00_3 ?hq00_3 (Or.inl ⟨?hw00_3, ?hy00_3⟩) (by assumption) ?rest00_3
            case hi00_3 => simp only [List.getElem?_toArray, List.getElem?_cons_succ, List.getElem?_cons_zero]; rfl
            case ha00_3 => kernel_rfl
            case hb00_3 => kernel_rfl
            case hc00_3 => kernel_rfl
            case hq00_3 => exact fun _ _ _ h => h
            case hw00_3 => kernel_rfl
            case hy00_3 => intro w hSw; (try dsimp only at hSw); go_simp; (try with_reducible rfl)
            (try simp only [Act.put, List.setIfInBounds_toArray, List.set_cons_zero, List.set_cons_succ])
            refine wpAnyH_take (i := 4) (oi := ?oi00_4) (v := ?v00_4) ?hi00_4 ?ha00_4 ?hb00_4 ?hc00_4 ?hq00_4 (Or.inl ⟨?hw00_4, ?hy00_4⟩) (by assumption) ?rest00_4
            case hi00_4 => simp only [List.getElem?_toArray, List.getElem?_cons_succ, List.getElem?_cons_zero]; rfl
            case ha00_4 => kernel_rfl
            case hb00_4 => kernel_rfl
            case hc00_4 => kernel_rfl
            case hq00_4 => exact fun _ _ _ h => h
            case hw00_4 => kernel_rfl
            case hy00_4 => intro w hSw; (try dsimp only at hSw); go_simp; (try with_reducible rfl)
            (try simp only [Act.put, List.setIfInBounds_toArray, List.set_cons_zero, List.set_cons_succ])
            refine wpAnyH_take (i := 5) (oi := ?oi00_5) (v := ?v00_5) ?hi00_5 ?ha00_5 ?hb00_5 ?hc00_5 ?hq00_5 (Or.inl ⟨?hw00_5, ?hy00_5⟩) (by assumption) ?rest00_5
            case hi00_5 => simp only [List.getElem?_toArray, List.getElem?_cons_succ, List.getElem?_cons_zero]; rfl
            case ha00_5 => kernel_rfl
            case hb00_5 => kernel_rfl
            case hc00_5 => kernel_rfl
            case hq00_5 => exact fun _ _ _ h => h
            case hw00_5 => kernel_rfl
            case hy00_5 => intro w hSw; (try dsimp only at hSw); go_simp; (try with_reducible rfl)
            (try simp only [Act.put, List.setIfInBounds_toArray, List.set_cons_zero, List.set_cons_succ])
            refine wpAnyH_take (i := 6) (oi := ?oi00_6) (v := ?v00_6) ?hi00_6 ?ha00_6 ?hb00_6 ?hc00_6 ?hq00_6 (Or.inl ⟨?hw00_6, ?hy00_6⟩) (by assumption) ?rest00_6
            case hi00_6 => simp only [List.getElem?_toArray, List.getElem?_cons_succ, List.getElem?_cons_zero]; rfl
            case ha00_6 => kernel_rfl
            case hb00_6 => kernel_rfl
            case hc00_6 => kernel_rfl
            case hq00_6 => exact fun _ _ _ h => h
            case hw00_6 => kernel_rfl
            case hy00_6 => intro w hSw; (try dsimp only at hSw); go_simp; (try with_reducible rfl)
            (try simp only [Act.put, List.setIfInBounds_toArray, List.set_cons_zero, List.set_cons_succ])
            refine wpAnyH_take (i := 8) (oi := ?oi00_8) (v := ?v00_8) ?hi00_8 ?ha00_8 ?hb00_8 ?hc00_8 ?hq00_8 (Or.inl ⟨?hw00_8, ?hy00_8⟩) (by assumption) ?rest00_8
            case hi00_8 => simp only [List.getElem?_toArray, List.getElem?_cons_succ, List.getElem?_cons_zero]; rfl
            case ha00_8 => kernel_rfl
            case hb00_8 => kernel_rfl
            case hc00_8 => kernel_rfl
            case hq00_8 => exact fun _ _ _ h => h
            case hw00_8 => kernel_rfl
            case hy00_8 => intro w hSw; (try dsimp only at hSw); go_simp; (try with_reducible rfl)
            (try simp only [Act.put, List.setIfInBounds_toArray, List.set_cons_zero, List.set_cons_succ])
            refine wpAnyH_take (i := 9) (oi := ?oi00_9) (v := ?v00_9) ?hi00_9 ?ha00_9 ?hb00_9 ?hc00_9 ?hq00_9 (Or.inl ⟨?hw00_9, ?hy00_9⟩) (by assumption) ?rest00_9
            case hi00_9 => simp only [List.getElem?_toArray, List.getElem?_cons_succ, List.getElem?_cons_zero]; rfl
            case ha00_9 => kernel_rfl
            case hb00_9 => kernel_rfl
            case hc00_9 => kernel_rfl
            case hq00_9 => exact fun _ _ _ h => h
            case hw00_9 => kernel_rfl
            case hy00_9 => intro w hSw; (try dsimp only at hSw); go_simp; (try with_reducible rfl)
            (try simp only [Act.put, List.setIfInBounds_toArray, List.set_cons_zero, List.set_cons_succ])
            refine wpAnyH_ready (rs := [7, 10]) (by kernel_rfl) (by simp) ?_
            refine AllReadyH.cons rfl (fun K hK => ?_) (AllReadyH.cons rfl (fun K hK => ?_) AllReadyH.nil)
            · go_simp
              refine hK.out _ _ ?_ (fun hHeld => ?_)
              · (try dsimp only); exact ⟨s2, t0, t1, t2, t3, u0, u1, u2, u3⟩
              clear hK K
              (try simp only [Act.put, List.setIfInBounds_toArray, List.set_cons_zero, List.set_cons_succ])
              refine wpAnyH_ready (rs := [10]) (by kernel_rfl) (by simp) ?_
              refine AllReadyH.cons rfl (fun K hK => ?_) AllReadyH.nil
              go_simp
              (go_at_call 48; refine (clash_any 1 10 1 10 _).mono ?_)
              rintro e w2 ⟨rfl, hb2⟩
              have gm : Below W.heap.size W w2 := thru (below_drew (Below.refl _ _)) hb2 (by simp)
              have ks2 := (gm.cell (p := ⟨L.S, 2, none⟩) zS).trans s2
              have krr := (gm.cell (p := ⟨L.cl, 0, none⟩) zc).trans rr
              have kt0 := (gm.cell (p := ⟨t9, 0, none⟩) zt).trans t0
              have kt1 := (gm.cell (p := ⟨t9, 1, none⟩) zt).trans t1
              have kt2 := (gm.cell (p := ⟨t9, 2, none⟩) zt).trans t2
              have kt3 := (gm.cell (p := ⟨t9, 3, none⟩) zt).trans t3
              have ku0 := (gm.cell (p := ⟨u9, 0, none⟩) zu).trans u0
              have ku1 := (gm.cell (p := ⟨u9, 1, none⟩) zu).trans u1
              have ku2 := (gm.cell (p := ⟨u9, 2, none⟩) zu).trans u2
              have ku3 := (gm.cell (p := ⟨u9, 3, none⟩) zu).trans u3
              have kzS := Nat.lt_of_lt_of_le zS gm.size
              have kzc := Nat.lt_of_lt_of_le zc gm.size
              have kzt := Nat.lt_of_lt_of_le zt gm.size
              have kzu := Nat.lt_of_lt_of_le zu gm.size
              clear hb2
              go_wp2_with fail
              refine hK.out _ _ ?_ (fun hHeld => ?_)
              · (try dsimp only); exact ⟨ks2, kt0, kt1, kt2, kt3, ku0, ku1, ku2, ku3⟩
              clear hK K
              (try simp only [Act.put, List.setIfInBounds_toArray, List.set_cons_zero, List.set_cons_succ])
              refine wpAnyH_ready (rs := [11]) (by kernel_rfl) (by simp) ?_
              refine AllReadyH.cons rfl (fun K hK => ?_) AllReadyH.nil
              go_simp
              refine hK.out _ _ ?_ (fun hHeld => ?_)
              · (try dsimp only); simp [go_sem, ks2, kt0, kt1, kt2, kt3, ku0, ku1, ku2, ku3, kzS, kzt, kzu]
              clear hK K
              (try simp only [Act.put, List.setIfInBounds_toArray, List.set_cons_zero, List.set_cons_succ])
              refine wpAnyH_ready (rs := [12]) (by kernel_rfl) (by simp) ?_
              refine AllReadyH.cons rfl (fun K hK => ?_) AllReadyH.nil
              refine step_append_lies _ rfl (.tmp 52) (.tmp 56) 68 rfl L.F 4 i0 _ 1 1 Try.underlying68 HI.out.1 HI.out.2.1 HI.out.2.2.1 HI.out.2.2.2 rfl (by omega) (.slice A0 0 c0) 0 (falses 0) rfl ((owns_on HR2.out gm).alloc _) ⟨w2.heap.size, 0, none⟩ 1 1 [.bool false] rfl rfl (World.news_of_block (heap_alloc_new w2 _)) (by simp [Value.oneCell']) (by omega) (by simp [maxLen]) (by omega) (by have := HV3.out.zF; have := gm.size; simp; omega) _ rfl ?_
              intro g cap w4 hown hgrow hat hlt
              have gm4 : Below L.F w2 w4 := (Below.mono (B := w2.heap.size) (Joins.below_alloc1 _ _) (by have := HV3.out.zF; have := gm.size; omega)).grown hgrow (by have := HV3.out.zF; have := gm.size; simp; omega) (fun k hk => (HR2.out.lt k hk).1)
              have ms2 := ((hgrow.cell_far ⟨L.S, 2, none⟩ (by simp; omega) (fun e => by have h := (HR2.out.lt _ e.symm).1; have h2 := HV3.out.n.S2; simp at h; omega)).trans ((Joins.below_alloc1 w2 _).cell (p := ⟨L.S, 2, none⟩) kzS)).trans ks2
              have mrr := ((hgrow.cell_far ⟨L.cl, 0, none⟩ (by simp; omega) (fun e => by have h := (HR2.out.lt _ e.symm).1; have h2 := HV3.out.n.c2; simp at h; omega)).trans ((Joins.below_alloc1 w2 _).cell (p := ⟨L.cl, 0, none⟩) kzc)).trans krr
              have mt0 := ((hgrow.cell_far ⟨t9, 0, none⟩ (by simp; omega) (fun e => HNB.out e.symm)).trans ((Joins.below_alloc1 w2 _).cell (p := ⟨t9, 0, none⟩) kzt)).trans kt0
              have mt1 := ((hgrow.cell_far ⟨t9, 1, none⟩ (by simp; omega) (fun e => HNB.out e.symm)).trans ((Joins.below_alloc1 w2 _).cell (p := ⟨t9, 1, none⟩) kzt)).trans kt1
              have mt2 := ((hgrow.cell_far ⟨t9, 2, none⟩ (by simp; omega) (fun e => HNB.out e.symm)).trans ((Joins.below_alloc1 w2 _).cell (p := ⟨t9, 2, none⟩) kzt)).trans kt2
              have mt3 := ((hgrow.cell_far ⟨t9, 3, none⟩ (by simp; omega) (fun e => HNB.out e.symm)).trans ((Joins.below_alloc1 w2 _).cell (p := ⟨t9, 3, none⟩) kzt)).trans kt3
              have mu0 := ((hgrow.cell_far ⟨u9, 0, none⟩ (by simp; omega) (fun e => by have h := HGU.out _ e.symm; simp at h)).trans ((Joins.below_alloc1 w2 _).cell (p := ⟨u9, 0, none⟩) kzu)).trans ku0
              have mu1 := ((hgrow.cell_far ⟨u9, 1, none⟩ (by simp; omega) (fun e => by have h := HGU.out _ e.symm; simp at h)).trans ((Joins.below_alloc1 w2 _).cell (p := ⟨u9, 1, none⟩) kzu)).trans ku1
              have mu2 := ((hgrow.cell_far ⟨u9, 2, none⟩ (by simp; omega) (fun e => by have h := HGU.out _ e.symm; simp at h)).trans ((Joins.below_alloc1 w2 _).cell (p := ⟨u9, 2, none⟩) kzu)).trans ku2
              have mu3 := ((hgrow.cell_far ⟨u9, 3, none⟩ (by simp; omega) (fun e => by have h := HGU.out _ e.symm; simp at h)).trans ((Joins.below_alloc1 w2 _).cell (p := ⟨u9, 3, none⟩) kzu)).trans ku3
              have mfc := ((hgrow.frozen_far ⟨L.cl, 0, none⟩ (by simp; omega) (fun e => by have h := (HR2.out.lt _ e.symm).1; have h2 := HV3.out.n.c2; simp at h; omega)).trans ((Joins.below_alloc1 w2 _).frozen (p := ⟨L.cl, 0, none⟩) kzc)).trans ((gm.frozen (p := ⟨L.cl, 0, none⟩) zc).trans (HV3.out.fc 0))
              have mzS := Nat.lt_of_lt_of_le kzS gm4.size
              have mzc := Nat.lt_of_lt_of_le kzc gm4.size
              have mzt := Nat.lt_of_lt_of_le kzt gm4.size
              have mzu := Nat.lt_of_lt_of_le kzu gm4.size
              refine hK.out _ _ ?_ (fun hHeld => ?_)
              · (try dsimp only); exact ⟨ms2, mt0, mt1, mt2, mt3, mu0, mu1, mu2, mu3⟩
              clear hK K
              (try simp only [Act.put, List.setIfInBounds_toArray])
              refine wpAnyH_ready (rs := [13]) (by kernel_rfl) (by simp) ?_
              refine AllReadyH.cons rfl (fun K hK => ?_) AllReadyH.nil
              go_simp
              refine hK.out _ _ ?_ (fun hHeld => ?_)
              · (try dsimp only); exact ⟨ms2, mt0, mt1, mt2, mt3, mu0, mu1, mu2, mu3⟩
              clear hK K
              (try simp only [Act.put, List.setIfInBounds_toArray, List.set_cons_zero, List.set_cons_succ])
              refine wpAnyH_ready (rs := [14]) (by kernel_rfl) (by simp) ?_
              refine AllReadyH.cons rfl (fun K hK => ?_) AllReadyH.nil
              go_simp
              refine hK.out _ _ ?_ (fun hHeld => ?_)
              · (try dsimp only); simp [go_sem, ms2, mt0, mt1, mt2, mt3, mu0, mu1, mu2, mu3]
              clear hK K
              (try simp only [Act.put, List.setIfInBounds_toArray])
              refine wpAnyH_done (by kernel_rfl) ?_ _
              have hfin := HV3.out.app0 (gm.trans ((Joins.below_alloc1 w2 (.cells #[.bool false] 4)).mono gm.size)) rr hgrow hat hown
              have HFIN := Lib.hid hfin
              have hg9 : g ≠ t9 := fun e => by
                  rcases hat with h | h
                  · exact HNB.out (by rw [h, e])
                  · simp at h; omega
              have HNB2 : Hid (∀ v, (w4.setCell ⟨L.cl, 0, none⟩ (.slice (some ⟨g, 0, none⟩) 1 cap)).cell? ⟨L.cl, 0, none⟩ = some v → v.ownBlock ≠ some t9) := Lib.hid (fun v hv => by
                  rw [cell_set_self, mrr] at hv
                  injection hv with hv
                  rw [← hv]
                  exact fun e => hg9 (by injection e))
              have HT9 := Lib.hid (And.intro ((sp_o (i := 0) hct (.slice (some ⟨g, 0, none⟩) 1 cap)).trans mt0) (And.intro ((sp_o (i := 0) hct (.slice (some ⟨g, 0, none⟩) 1 cap)).trans mt1) (And.intro ((sp_o (i := 0) hct (.slice (some ⟨g, 0, none⟩) 1 cap)).trans mt2) ((sp_o (i := 0) hct (.slice (some ⟨g, 0, none⟩) 1 cap)).trans mt3))))
              clear hfin hg9 hown hgrow hat hlt gm gm4 s2 rr t0 t1 t2 t3 u0 u1 u2 u3 ks2 krr kt0 kt1 kt2 kt3 ku0 ku1 ku2 ku3 ms2 mrr mt0 mt1 mt2 mt3 mu0 mu1 mu2 mu3
              go_wp2
              go_roundw
              case rel => exact ⟨.inr (.inl ⟨by go_num, HFIN.out⟩), HT9.out.1, HT9.out.2.1, HT9.out.2.2.1, HT9.out.2.2.2, by simpa using mzt, HNB2.out⟩
              case measure => simp [intOf]
            · go_simp
              (go_at_call 48; refine (clash_any 1 10 1 10 _).mono ?_)
              rintro e w2 ⟨rfl, hb2⟩
              have gm : Below W.heap.size W w2 := thru (below_drew (Below.refl _ _)) hb2 (by simp)
              have ks2 := (gm.cell (p := ⟨L.S, 2, none⟩) zS).trans s2
              have krr := (gm.cell (p := ⟨L.cl, 0, none⟩) zc).trans rr
              have kt0 := (gm.cell (p := ⟨t9, 0, none⟩) zt).trans t0
              have kt1 := (gm.cell (p := ⟨t9, 1, none⟩) zt).trans t1
              have kt2 := (gm.cell (p := ⟨t9, 2, none⟩) zt).trans t2
              have kt3 := (gm.cell (p := ⟨t9, 3, none⟩) zt).trans t3
              have ku0 := (gm.cell (p := ⟨u9, 0, none⟩) zu).trans u0
              have ku1 := (gm.cell (p := ⟨u9, 1, none⟩) zu).trans u1
              have ku2 := (gm.cell (p := ⟨u9, 2, none⟩) zu).trans u2
              have ku3 := (gm.cell (p := ⟨u9, 3, none⟩) zu).trans u3
              have kzS := Nat.lt_of_lt_of_le zS gm.size
              have kzc := Nat.lt_of_lt_of_le zc gm.size
              have kzt := Nat.lt_of_lt_of_le zt gm.size
              have kzu := Nat.lt_of_lt_of_le zu gm.size
              clear hb2
              go_wp2_with fail
              refine hK.out _ _ ?_ (fun hHeld => ?_)
              · (try dsimp only); exact ⟨ks2, kt0, kt1, kt2, kt3, ku0, ku1, ku2, ku3⟩
              clear hK K
              (try simp only [Act.put, List.setIfInBounds_toArray, List.set_cons_zero, List.set_cons_succ])
              refine wpAnyH_ready (rs := [7, 11]) (by kernel_rfl) (by simp) ?_
              refine AllReadyH.cons rfl (fun K hK => ?_) (AllReadyH.cons rfl (fun K hK => ?_) AllReadyH.nil)
              · go_simp
                refine hK.out _ _ ?_ (fun hHeld => ?_)
                · (try dsimp only); exact ⟨ks2, kt0, kt1, kt2, kt3, ku0, ku1, ku2, ku3⟩
                clear hK K
                (try simp only [Act.put, List.setIfInBounds_toArray, List.set_cons_zero, List.set_cons_succ])
                refine wpAnyH_ready (rs := [11]) (by kernel_rfl) (by simp) ?_
                refine AllReadyH.cons rfl (fun K hK => ?_) AllReadyH.nil
                go_simp
                refine hK.out _ _ ?_ (fun hHeld => ?_)
                · (try dsimp only); simp [go_sem, ks2, kt0, kt1, kt2, kt3, ku0, ku1, ku2, ku3, kzS, kzt, kzu]
                clear hK K
                (try simp only [Act.put, List.setIfInBounds_toArray, List.set_cons_zero, List.set_cons_succ])
                refine wpAnyH_ready (rs := [12]) (by kernel_rfl) (by simp) ?_
                refine AllReadyH.cons rfl (fun K hK => ?_) AllReadyH.nil
                refine step_append_lies _ rfl (.tmp 52) (.tmp 56) 68 rfl L.F 4 i0 _ 1 1 Try.underlying68 HI.out.1 HI.out.2.1 HI.out.2.2.1 HI.out.2.2.2 rfl (by omega) (.slice A0 0 c0) 0 (falses 0) rfl ((owns_on HR2.out gm).alloc _) ⟨w2.heap.size, 0, none⟩ 1 1 [.bool false] rfl rfl (World.news_of_block (heap_alloc_new w2 _)) (by simp [Value.oneCell']) (by omega) (by simp [maxLen]) (by omega) (by have := HV3.out.zF; have := gm.size; simp; omega) _ rfl ?_
                intro g cap w4 hown hgrow hat hlt
                have gm4 : Below L.F w2 w4 := (Below.mono (B := w2.heap.size) (Joins.below_alloc1 _ _) (by have := HV3.out.zF; have := gm.size; omega)).grown hgrow (by have := HV3.out.zF; have := gm.size; simp; omega) (fun k hk => (HR2.out.lt k hk).1)
                have ms2 := ((hgrow.cell_far ⟨L.S, 2, none⟩ (by simp; omega) (fun e => by have h := (HR2.out.lt _ e.symm).1; have h2 := HV3.out.n.S2; simp at h; omega)).trans ((Joins.below_alloc1 w2 _).cell (p := ⟨L.S, 2, none⟩) kzS)).trans ks2
                have mrr := ((hgrow.cell_far ⟨L.cl, 0, none⟩ (by simp; omega) (fun e => by have h := (HR2.out.lt _ e.symm).1; have h2 := HV3.out.n.c2; simp at h; omega)).trans ((Joins.below_alloc1 w2 _).cell (p := ⟨L.cl, 0, none⟩) kzc)).trans krr
                have mt0 := ((hgrow.cell_far ⟨t9, 0, none⟩ (by simp; omega) (fun e => HNB.out e.symm)).trans ((Joins.below_alloc1 w2 _).cell (p := ⟨t9, 0, none⟩) kzt)).trans kt0
                have mt1 := ((hgrow.cell_far ⟨t9, 1, none⟩ (by simp; omega) (fun e => HNB.out e.symm)).trans ((Joins.below_alloc1 w2 _).cell (p := ⟨t9, 1, none⟩) kzt)).trans kt1
                have mt2 := ((hgrow.cell_far ⟨t9, 2, none⟩ (by simp; omega) (fun e => HNB.out e.symm)).trans ((Joins.below_alloc1 w2 _).cell (p := ⟨t9, 2, none⟩) kzt)).trans kt2
                have mt3 := ((hgrow.cell_far ⟨t9, 3, none⟩ (by simp; omega) (fun e => HNB.out e.symm)).trans ((Joins.below_alloc1 w2 _).cell (p := ⟨t9, 3, none⟩) kzt)).trans kt3
                have mu0 := ((hgrow.cell_far ⟨u9, 0, none⟩ (by simp; omega) (fun e => by have h := HGU.out _ e.symm; simp at h)).trans ((Joins.below_alloc1 w2 _).cell (p := ⟨u9, 0, none⟩) kzu)).trans ku0
                have mu1 := ((hgrow.cell_far ⟨u9, 1, none⟩ (by simp; omega) (fun e => by have h := HGU.out _ e.symm; simp at h)).trans ((Joins.below_alloc1 w2 _).cell (p := ⟨u9, 1, none⟩) kzu)).trans ku1
                have mu2 := ((hgrow.cell_far ⟨u9, 2, none⟩ (by simp; omega) (fun e => by have h := HGU.out _ e.symm; simp at h)).trans ((Joins.below_alloc1 w2 _).cell (p := ⟨u9, 2, none⟩) kzu)).trans ku2
                have mu3 := ((hgrow.cell_far ⟨u9, 3, none⟩ (by simp; omega) (fun e => by have h := HGU.out _ e.symm; simp at h)).trans ((Joins.below_alloc1 w2 _).cell (p := ⟨u9, 3, none⟩) kzu)).trans ku3
                have mfc := ((hgrow.frozen_far ⟨L.cl, 0, none⟩ (by simp; omega) (fun e => by have h := (HR2.out.lt _ e.symm).1; have h2 := HV3.out.n.c2; simp at h; omega)).trans ((Joins.below_alloc1 w2 _).frozen (p := ⟨L.cl, 0, none⟩) kzc)).trans ((gm.frozen (p := ⟨L.cl, 0, none⟩) zc).trans (HV3.out.fc 0))
                have mzS := Nat.lt_of_lt_of_le kzS gm4.size
                have mzc := Nat.lt_of_lt_of_le kzc gm4.size
                have mzt := Nat.lt_of_lt_of_le kzt gm4.size
                have mzu := Nat.lt_of_lt_of_le kzu gm4.size
                refine hK.out _ _ ?_ (fun hHeld => ?_)
                · (try dsimp only); exact ⟨ms2, mt0, mt1, mt2, mt3, mu0, mu1, mu2, mu3⟩
                clear hK K
                (try simp only [Act.put, List.setIfInBounds_toArray])
                refine wpAnyH_ready (rs := [13]) (by kernel_rfl) (by simp) ?_
                refine AllReadyH.cons rfl (fun K hK => ?_) AllReadyH.nil
                go_simp
                refine hK.out _ _ ?_ (fun hHeld => ?_)
                · (try dsimp only); exact ⟨ms2, mt0, mt1, mt2, mt3, mu0, mu1, mu2, mu3⟩
                clear hK K
                (try simp only [Act.put, List.setIfInBounds_toArray, List.set_cons_zero, List.set_cons_succ])
                refine wpAnyH_ready (rs := [14]) (by kernel_rfl) (by simp) ?_
                refine AllReadyH.cons rfl (fun K hK => ?_) AllReadyH.nil
                go_simp
                refine hK.out _ _ ?_ (fun hHeld => ?_)
                · (try dsimp only); simp [go_sem, ms2, mt0, mt1, mt2, mt3, mu0, mu1, mu2, mu3]
                clear hK K
                (try simp only [Act.put, List.setIfInBounds_toArray])
                refine wpAnyH_done (by kernel_rfl) ?_ _
                have hfin := HV3.out.app0 (gm.trans ((Joins.below_alloc1 w2 (.cells #[.bool false] 4)).mono gm.size)) rr hgrow hat hown
                have HFIN := Lib.hid hfin
                have hg9 : g ≠ t9 := fun e => by
                    rcases hat with h | h
                    · exact HNB.out (by rw [h, e])
                    · simp at h; omega
                have HNB2 : Hid (∀ v, (w4.setCell ⟨L.cl, 0, none⟩ (.slice (some ⟨g, 0, none⟩) 1 cap)).cell? ⟨L.cl, 0, none⟩ = some v → v.ownBlock ≠ some t9) := Lib.hid (fun v hv => by
                    rw [cell_set_self, mrr] at hv
                    injection hv with hv
                    rw [← hv]
                    exact fun e => hg9 (by injection e))
                have HT9 := Lib.hid (And.intro ((sp_o (i := 0) hct (.slice (some ⟨g, 0, none⟩) 1 cap)).trans mt0) (And.intro ((sp_o (i := 0) hct (.slice (some ⟨g, 0, none⟩) 1 cap)).trans mt1) (And.intro ((sp_o (i := 0) hct (.slice (some ⟨g, 0, none⟩) 1 cap)).trans mt2) ((sp_o (i := 0) hct (.slice (some ⟨g, 0, none⟩) 1 cap)).trans mt3))))
                clear hfin hg9 hown hgrow hat hlt gm gm4 s2 rr t0 t1 t2 t3 u0 u1 u2 u3 ks2 krr kt0 kt1 kt2 kt3 ku0 ku1 ku2 ku3 ms2 mrr mt0 mt1 mt2 mt3 mu0 mu1 mu2 mu3
                go_wp2
                go_roundw
                case rel => exact ⟨.inr (.inl ⟨by go_num, HFIN.out⟩), HT9.out.1, HT9.out.2.1, HT9.out.2.2.1, HT9.out.2.2.2, by simpa using mzt, HNB2.out⟩
                case measure => simp [intOf]
              · go_simp
                refine hK.out _ _ ?_ (fun hHeld => ?_)
                · (try dsimp only); simp [go_sem, ks2, kt0, kt1, kt2, kt3, ku0, ku1, ku2, ku3, kzS, kzt, kzu]
                clear hK K
                (try simp only [Act.put, List.setIfInBounds_toArray, List.set_cons_zero, List.set_cons_succ])
                refine wpAnyH_ready (rs := [7]) (by kernel_rfl) (by simp) ?_
                refine AllReadyH.cons rfl (fun K hK => ?_) AllReadyH.nil
                go_simp
                refine hK.out _ _ ?_ (fun hHeld => ?_)
                · (try dsimp only); simp [go_sem, ks2, kt0, kt1, kt2, kt3, ku0, ku1, ku2, ku3, kzS, kzt, kzu]
                clear hK K
                (try simp only [Act.put, List.setIfInBounds_toArray, List.set_cons_zero, List.set_cons_succ])
                refine wpAnyH_ready (rs := [12]) (by kernel_rfl) (by simp) ?_
                refine AllReadyH.cons rfl (fun K hK => ?_) AllReadyH.nil
                refine step_append_lies _ rfl (.tmp 52) (.tmp 56) 68 rfl L.F 4 i0 _ 1 1 Try.underlying68 HI.out.1 HI.out.2.1 HI.out.2.2.1 HI.out.2.2.2 rfl (by omega) (.slice A0 0 c0) 0 (falses 0) rfl ((owns_on HR2.out gm).alloc _) ⟨w2.heap.size, 0, none⟩ 1 1 [.bool false] rfl rfl (World.news_of_block (heap_alloc_new w2 _)) (by simp [Value.oneCell']) (by omega) (by simp [maxLen]) (by omega) (by have := HV3.out.zF; have := gm.size; simp; omega) _ rfl ?_
                intro g cap w4 hown hgrow hat hlt
                have gm4 : Below L.F w2 w4 := (Below.mono (B := w2.heap.size) (Joins.below_alloc1 _ _) (by have := HV3.out.zF; have := gm.size; omega)).grown hgrow (by have := HV3.out.zF; have := gm.size; simp; omega) (fun k hk => (HR2.out.lt k hk).1)
                have ms2 := ((hgrow.cell_far ⟨L.S, 2, none⟩ (by simp; omega) (fun e => by have h := (HR2.out.lt _ e.symm).1; have h2 := HV3.out.n.S2; simp at h; omega)).trans ((Joins.below_alloc1 w2 _).cell (p := ⟨L.S, 2, none⟩) kzS)).trans ks2
                have mrr := ((hgrow.cell_far ⟨L.cl, 0, none⟩ (by simp; omega) (fun e => by have h := (HR2.out.lt _ e.symm).1; have h2 := HV3.out.n.c2; simp at h; omega)).trans ((Joins.below_alloc1 w2 _).cell (p := ⟨L.cl, 0, none⟩) kzc)).trans krr
                have mt0 := ((hgrow.cell_far ⟨t9, 0, none⟩ (by simp; omega) (fun e => HNB.out e.symm)).trans ((Joins.below_alloc1 w2 _).cell (p := ⟨t9, 0, none⟩) kzt)).trans kt0
                have mt1 := ((hgrow.cell_far ⟨t9, 1, none⟩ (by simp; omega) (fun e => HNB.out e.symm)).trans ((Joins.below_alloc1 w2 _).cell (p := ⟨t9, 1, none⟩) kzt)).trans kt1
                have mt2 := ((hgrow.cell_far ⟨t9, 2, none⟩ (by simp; omega) (fun e => HNB.out e.symm)).trans ((Joins.below_alloc1 w2 _).cell (p := ⟨t9, 2, none⟩) kzt)).trans kt2
                have mt3 := ((hgrow.cell_far ⟨t9, 3, none⟩ (by simp; omega) (fun e => HNB.out e.symm)).trans ((Joins.below_alloc1 w2 _).cell (p := ⟨t9, 3, none⟩) kzt)).trans kt3
                have mu0 := ((hgrow.cell_far ⟨u9, 0, none⟩ (by simp; omega) (fun e => by have h := HGU.out _ e.symm; simp at h)).trans ((Joins.below_alloc1 w2 _).cell (p := ⟨u9, 0, none⟩) kzu)).trans ku0
                have mu1 := ((hgrow.cell_far ⟨u9, 1, none⟩ (by simp; omega) (fun e => by have h := HGU.out _ e.symm; simp at h)).trans ((Joins.below_alloc1 w2 _).cell (p := ⟨u9, 1, none⟩) kzu)).trans ku1
                have mu2 := ((hgrow.cell_far ⟨u9, 2, none⟩ (by simp; omega) (fun e => by have h := HGU.out _ e.symm; simp at h)).trans ((Joins.below_alloc1 w2 _).cell (p := ⟨u9, 2, none⟩) kzu)).trans ku2
                have mu3 := ((hgrow.cell_far ⟨u9, 3, none⟩ (by simp; omega) (fun e => by have h := HGU.out _ e.symm; simp at h)).trans ((Joins.below_alloc1 w2 _).cell (p := ⟨u9, 3, none⟩) kzu)).trans ku3
                have mfc := ((hgrow.frozen_far ⟨L.cl, 0, none⟩ (by simp; omega) (fun e => by have h := (HR2.out.lt _ e.symm).1; have h2 := HV3.out.n.c2; simp at h; omega)).trans ((Joins.below_alloc1 w2 _).frozen (p := ⟨L.cl, 0, none⟩) kzc)).trans ((gm.frozen (p := ⟨L.cl, 0, none⟩) zc).trans (HV3.out.fc 0))
                have mzS := Nat.lt_of_lt_of_le kzS gm4.size
                have mzc := Nat.lt_of_lt_of_le kzc gm4.size
                have mzt := Nat.lt_of_lt_of_le kzt gm4.size
                have mzu := Nat.lt_of_lt_of_le kzu gm4.size
                refine hK.out _ _ ?_ (fun hHeld => ?_)
                · (try dsimp only); exact ⟨ms2, mt0, mt1, mt2, mt3, mu0, mu1, mu2, mu3⟩
                clear hK K
                (try simp only [Act.put, List.setIfInBounds_toArray])
                refine wpAnyH_ready (rs := [13]) (by kernel_rfl) (by simp) ?_
                refine AllReadyH.cons rfl (fun K hK => ?_) AllReadyH.nil
                go_simp
                refine hK.out _ _ ?_ (fun hHeld => ?_)
                · (try dsimp only); exact ⟨ms2, mt0, mt1, mt2, mt3, mu0, mu1, mu2, mu3⟩
                clear hK K
                (try simp only [Act.put, List.setIfInBounds_toArray, List.set_cons_zero, List.set_cons_succ])
                refine wpAnyH_ready (rs := [14]) (by kernel_rfl) (by simp) ?_
                refine AllReadyH.cons rfl (fun K hK => ?_) AllReadyH.nil
                go_simp
                refine hK.out _ _ ?_ (fun hHeld => ?_)
                · (try dsimp only); simp [go_sem, ms2, mt0, mt1, mt2, mt3, mu0, mu1, mu2, mu3]
                clear hK K
                (try simp only [Act.put, List.setIfInBounds_toArray])
                refine wpAnyH_done (by kernel_rfl) ?_ _
                have hfin := HV3.out.app0 (gm.trans ((Joins.below_alloc1 w2 (.cells #[.bool false] 4)).mono gm.size)) rr hgrow hat hown
                have HFIN := Lib.hid hfin
                have hg9 : g ≠ t9 := fun e => by
                    rcases hat with h | h
                    · exact HNB.out (by rw [h, e])
                    · simp at h; omega
                have HNB2 : Hid (∀ v, (w4.setCell ⟨L.cl, 0, none⟩ (.slice (some ⟨g, 0, none⟩) 1 cap)).cell? ⟨L.cl, 0, none⟩ = some v → v.ownBlock ≠ some t9) := Lib.hid (fun v hv => by
                    rw [cell_set_self, mrr] at hv
                    injection hv with hv
                    rw [← hv]
                    exact fun e => hg9 (by injection e))
                have HT9 := Lib.hid (And.intro ((sp_o (i := 0) hct (.slice (some ⟨g, 0, none⟩) 1 cap)).trans mt0) (And.intro ((sp_o (i := 0) hct (.slice (some ⟨g, 0, none⟩) 1 cap)).trans mt1) (And.intro ((sp_o (i := 0) hct (.slice (some ⟨g, 0, none⟩) 1 cap)).trans mt2) ((sp_o (i := 0) hct (.slice (some ⟨g, 0, none⟩) 1 cap)).trans mt3))))
                clear hfin hg9 hown hgrow hat hlt gm gm4 s2 rr t0 t1 t2 t3 u0 u1 u2 u3 ks2 krr kt0 kt1 kt2 kt3 ku0 ku1 ku2 ku3 ms2 mrr mt0 mt1 mt2 mt3 mu0 mu1 mu2 mu3
                go_wp2
                go_roundw
                case rel => exact ⟨.inr (.inl ⟨by go_num, HFIN.out⟩), HT9.out.1, HT9.out.2.1, HT9.out.2.2.1, HT9.out.2.2.2, by simpa using mzt, HNB2.out⟩
                case measure => simp [intOf]

          · have hn := HV3.out.n
            obtain ⟨A0, c0, A1, c1, r1, r2, r3, r4, r5, r6, r7⟩ := HV3.out.r
            have HR2 := Lib.hid r2
            have hW := HV3.out.on (Joins.below_alloc1 wr (.cells #[.int .i64 2, .int .i64 20, .bool false, .slice none 0 0] 64))
            have HVW := Lib.hid hW
            have s2 := HV3.out.s2
            have rr := r1
            have zS : L.S < wr.heap.size := Nat.lt_of_lt_of_le hn.S2 HV3.out.zF
            have zc : L.cl < wr.heap.size := Nat.lt_of_lt_of_le hn.c2 HV3.out.zF
            have HOW := Lib.hid (owns_on r2 (Joins.below_alloc1 wr (.cells #[.int .i64 2, .int .i64 20, .bool false, .slice none 0 0] 64)))
            have zF := HV3.out.zF
            have HNB := Lib.hid (hnb _ rr)
            have hSc : L.cl ≠ L.S := hn.Sc.symm
            have hct : L.cl ≠ t9 := by have := hn.c2; omega
            have hcu : L.cl ≠ wr.heap.size := by have := hn.c2; have := HV3.out.zF; omega
            have HGU : Hid (∀ k, Value.ownBlock (.slice A0 1 c0) = some k → k < wr.heap.size) := Lib.hid (fun k hk => (r2.lt k hk).2)
            have HFC : Hid (∀ k, wr.frozen? ⟨L.cl, k, none⟩ = false) := Lib.hid HV3.out.fc
            clear r2 r4 r5 r6 r7 hn r1 r3 hW hnb
            go_upto_region 11 with fail
            have u0 : (wr.alloc (.cells #[.int .i64 2, .int .i64 20, .bool false, .slice none 0 0] 64)).cell? ⟨wr.heap.size, 0, none⟩ = some (.int .i64 2) := by simp [go_sem]
            have u1 : (wr.alloc (.cells #[.int .i64 2, .int .i64 20, .bool false, .slice none 0 0] 64)).cell? ⟨wr.heap.size, 1, none⟩ = some (.int .i64 20) := by simp [go_sem]
            have u2 : (wr.alloc (.cells #[.int .i64 2, .int .i64 20, .bool false, .slice none 0 0] 64)).cell? ⟨wr.heap.size, 2, none⟩ = some (.bool false) := by simp [go_sem]
            have u3 : (wr.alloc (.cells #[.int .i64 2, .int .i64 20, .bool false, .slice none 0 0] 64)).cell? ⟨wr.heap.size, 3, none⟩ = some (.slice none 0 0) := by simp [go_sem]
            have hbx := Joins.below_alloc1 wr (.cells #[.int .i64 2, .int .i64 20, .bool false, .slice none 0 0] 64)
            replace s2 := (hbx.cell (p := ⟨L.S, 2, none⟩) zS).trans s2
            replace rr := (hbx.cell (p := ⟨L.cl, 0, none⟩) zc).trans rr
            replace t0 := (hbx.cell (p := ⟨t9, 0, none⟩) zt).trans t0
            replace t1 := (hbx.cell (p := ⟨t9, 1, none⟩) zt).trans t1
            replace t2 := (hbx.cell (p := ⟨t9, 2, none⟩) zt).trans t2
            replace t3 := (hbx.cell (p := ⟨t9, 3, none⟩) zt).trans t3
            have zu : wr.heap.size < (wr.alloc (.cells #[.int .i64 2, .int .i64 20, .bool false, .slice none 0 0] 64)).heap.size := by simp
            replace zS := Nat.lt_of_lt_of_le zS hbx.size
            replace zc := Nat.lt_of_lt_of_le zc hbx.size
            replace zt := Nat.lt_of_lt_of_le zt hbx.size
            have hu9 : L.F ≤ wr.heap.size := zF
            clear hbx a0 a1 a2 a3 b0 b1 b2 b3 zb zF HV3
            have HV3 := HVW
            clear HVW HR2
            have HR2 := HOW
            clear HOW
            generalize wr.heap.size = u9 at *
            generalize wr.alloc (.cells #[.int .i64 2, .int .i64 20, .bool false, .slice none 0 0] 64) = W at *
            refine wp_region_held_drew (S := fun w' => w'.cell? ⟨L.S, 2, none⟩ = some (.slice (some ⟨L.cl, 0, none⟩) 2 2) ∧ w'.cell? ⟨t9, 0, none⟩ = some (.int .i64 1) ∧ w'.cell? ⟨t9, 1, none⟩ = some (.int .i64 10) ∧ w'.cell? ⟨t9, 2, none⟩ = some (.bool false) ∧ w'.cell? ⟨t9, 3, none⟩ = some (.slice none 0 0) ∧ w'.cell? ⟨u9, 0, none⟩ = some (.int .i64 2) ∧ w'.cell? ⟨u9, 1, none⟩ = some (.int .i64 20) ∧ w'.cell? ⟨u9, 2, none⟩ = some (.bool false) ∧ w'.cell? ⟨u9, 3, none⟩ = some (.slice none 0 0)) (by kernel_rfl) ?_ (fun hHeld => ?_)
            · (try dsimp only); exact ⟨s2, t0, t1, t2, t3, u0, u1, u2, u3⟩
            refine wpAnyH_take (i := 0) (oi := ?oi01_0) (v := ?v01_0) ?hi01_0 ?ha01_0 ?hb01_0 ?hc01_0 ?hq01_0 (Or.inl ⟨?hw01_0, ?hy01_0⟩) (by assumption) ?rest01_0
            case hi01_0 => simp only [List.getElem?_toArray, List.getElem?_cons_zero]; rfl
            case ha01_0 => kernel_rfl
            case hb01_0 => kernel_rfl
            case hc01_0 => kernel_rfl
            case hq01_0 => exact fun _ _ _ h => h
            case hw01_0 => kernel_rfl
            case hy01_0 => intro w hSw; (try dsimp only at hSw); go_simp; (try with_reducible rfl)
            (try simp only [Act.put, List.setIfInBounds_toArray, List.set_cons_zero, List.set_cons_succ])
            refine wpAnyH_take (i := 1) (oi := ?oi01_1) (v := ?v01_1) ?hi01_1 ?ha01_1 ?hb01_1 ?hc01_1 ?hq01_1 (Or.inl ⟨?hw01_1, ?hy01_1⟩) (by assumption) ?rest01_1
            case hi01_1 => simp only [List.getElem?_toArray, List.getElem?_cons_succ, List.getElem?_cons_zero]; rfl
            case ha01_1 => kernel_rfl
            case hb01_1 => kernel_rfl
            case hc01_1 => kernel_rfl
            case hq01_1 => exact fun _ _ _ h => h
            case hw01_1 => kernel_rfl
            case hy01_1 => intro w hSw; (try dsimp only at hSw); go_simp; (try with_reducible rfl)
            (try simp only [Act.put, List.setIfInBounds_toArray, List.set_cons_zero, List.set_cons_succ])
            refine wpAnyH_take (i := 2) (oi := ?oi01_2) (v := ?v01_2) ?hi01_2 ?ha01_2 ?hb01_2 ?hc01_2 ?hq01_2 (Or.inl ⟨?hw01_2, ?hy01_2⟩) (by assumption) ?rest01_2
            case hi01_2 => simp only [List.getElem?_toArray, List.getElem?_cons_succ, List.getElem?_cons_zero]; rfl
            case ha01_2 => kernel_rfl
            case hb01_2 => kernel_rfl
            case hc01_2 => kernel_rfl
            case hq01_2 => exact fun _ _ _ h => h
            case hw01_2 => kernel_rfl
            case hy01_2 => intro w hSw; (try dsimp only at hSw); go_simp; (try with_reducible rfl)
            (try simp only [Act.put, List.setIfInBounds_toArray, List.set_cons_zero, List.set_cons_succ])
            refine wpAnyH_take (i := 3) (oi := ?oi01_3) (v := ?v01_3) ?hi01_3 ?ha01_3 ?hb01_3 ?hc01_3 ?hq01_3 (Or.inl ⟨?hw01_3, ?hy01_3⟩) (by assumption) ?rest01_3
            case hi01_3 => simp only [List.getElem?_toArray, List.getElem?_cons_succ, List.getElem?_cons_zero]; rfl
            case ha01_3 => kernel_rfl
            case hb01_3 => kernel_rfl
            case hc01_3 => kernel_rfl
            case hq01_3 => exact fun _ _ _ h => h
            case hw01_3 => kernel_rfl
            case hy01_3 => intro w hSw; (try dsimp only at hSw); go_simp; (try with_reducible rfl)
            (try simp only [Act.put, List.setIfInBounds_toArray, List.set_cons_zero, List.set_cons_succ])
            refine wpAnyH_take (i := 4) (oi := ?oi01_4) (v := ?v01_4) ?hi01_4 ?ha01_4 ?hb01_4 ?hc01_4 ?hq01_4 (Or.inl ⟨?hw01_4, ?hy01_4⟩) (by assumption) ?rest01_4
            case hi01_4 => simp only [List.getElem?_toArray, List.getElem?_cons_succ, List.getElem?_cons_zero]; rfl
            case ha01_4 => kernel_rfl
            case hb01_4 => kernel_rfl
            case hc01_4 => kernel_rfl
            case hq01_4 => exact fun _ _ _ h => h
            case hw01_4 => kernel_rfl
            case hy01_4 => intro w hSw; (try dsimp only at hSw); go_simp; (try with_reducible rfl)
            (try simp only [Act.put, List.setIfInBounds_toArray, List.set_cons_zero, List.set_cons_succ])
            refine wpAnyH_take (i := 5) (oi := ?oi01_5) (v := ?v01_5) ?hi01_5 ?ha01_5 ?hb01_5 ?hc01_5 ?hq01_5 (Or.inl ⟨?hw01_5, ?hy01_5⟩) (by assumption) ?rest01_5
            case hi01_5 => simp only [List.getElem?_toArray, List.getElem?_cons_succ, List.getElem?_cons_zero]; rfl
            case ha01_5 => kernel_rfl
            case hb01_5 => kernel_rfl
            case hc01_5 => kernel_rfl
            case hq01_5 => exact fun _ _ _ h => h
            case hw01_5 => kernel_rfl
            case hy01_5 => intro w hSw; (try dsimp only at hSw); go_simp; (try with_reducible rfl)
            (try simp only [Act.put, List.setIfInBounds_toArray, List.set_cons_zero, List.set_cons_succ])
            refine wpAnyH_take (i := 6) (oi := ?oi01_6) (v := ?v01_6) ?hi01_6 ?ha01_6 ?hb01_6 ?hc01_6 ?hq01_6 (Or.inl ⟨?hw01_6, ?hy01_6⟩) (by assumption) ?rest01_6
            case hi01_6 => simp only [List.getElem?_toArray, List.getElem?_cons_succ, List.getElem?_cons_zero]; rfl
            case ha01_6 => kernel_rfl
            case hb01_6 => kernel_rfl
            case hc01_6 => kernel_rfl
            case hq01_6 => exact fun _ _ _ h => h
            case hw01_6 => kernel_rfl
            case hy01_6 => intro w hSw; (try dsimp only at hSw); go_simp; (try with_reducible rfl)
            (try simp only [Act.put, List.setIfInBounds_toArray, List.set_cons_zero, List.set_cons_succ])
            refine wpAnyH_take (i := 8) (oi := ?oi01_8) (v := ?v01_8) ?hi01_8 ?ha01_8 ?hb01_8 ?hc01_8 ?hq01_8 (Or.inl ⟨?hw01_8, ?hy01_8⟩) (by assumption) ?rest01_8
            case hi01_8 => simp only [List.getElem?_toArray, List.getElem?_cons_succ, List.getElem?_cons_zero]; rfl
            case ha01_8 => kernel_rfl
            case hb01_8 => kernel_rfl
            case hc01_8 => kernel_rfl
            case hq01_8 => exact fun _ _ _ h => h
            case hw01_8 => kernel_rfl
            case hy01_8 => intro w hSw; (try dsimp only at hSw); go_simp; (try with_reducible rfl)
            (try simp only [Act.put, List.setIfInBounds_toArray, List.set_cons_zero, List.set_cons_succ])
            refine wpAnyH_take (i := 9) (oi := ?oi01_9) (v := ?v01_9) ?hi01_9 ?ha01_9 ?hb01_9 ?hc01_9 ?hq01_9 (Or.inl ⟨?hw01_9, ?hy01_9⟩) (by assumption) ?rest01_9
            case hi01_9 => simp only [List.getElem?_toArray, List.getElem?_cons_succ, List.getElem?_cons_zero]; rfl
            case ha01_9 => kernel_rfl
            case hb01_9 => kernel_rfl
            case hc01_9 => kernel_rfl
            case hq01_9 => exact fun _ _ _ h => h
            case hw01_9 => kernel_rfl
            case hy01_9 => intro w hSw; (try dsimp only at hSw); go_simp; (try with_reducible rfl)
            (try simp only [Act.put, List.setIfInBounds_toArray, List.set_cons_zero, List.set_cons_succ])
            refine wpAnyH_ready (rs := [7, 10]) (by kernel_rfl) (by simp) ?_
            refine AllReadyH.cons rfl (fun K hK => ?_) (AllReadyH.cons rfl (fun K hK => ?_) AllReadyH.nil)
            · go_simp
              refine hK.out _ _ ?_ (fun hHeld => ?_)
              · (try dsimp only); exact ⟨s2, t0, t1, t2, t3, u0, u1, u2, u3⟩
              clear hK K
              (try simp only [Act.put, List.setIfInBounds_toArray, List.set_cons_zero, List.set_cons_succ])
              refine wpAnyH_ready (rs := [10]) (by kernel_rfl) (by simp) ?_
              refine AllReadyH.cons rfl (fun K hK => ?_) AllReadyH.nil
              go_simp
              (go_at_call 48; refine (clash_any 1 10 2 20 _).mono ?_)
              rintro e w2 ⟨rfl, hb2⟩
              have gm : Below W.heap.size W w2 := thru (below_drew (Below.refl _ _)) hb2 (by simp)
              have ks2 := (gm.cell (p := ⟨L.S, 2, none⟩) zS).trans s2
              have krr := (gm.cell (p := ⟨L.cl, 0, none⟩) zc).trans rr
              have kt0 := (gm.cell (p := ⟨t9, 0, none⟩) zt).trans t0
              have kt1 := (gm.cell (p := ⟨t9, 1, none⟩) zt).trans t1
              have kt2 := (gm.cell (p := ⟨t9, 2, none⟩) zt).trans t2
              have kt3 := (gm.cell (p := ⟨t9, 3, none⟩) zt).trans t3
              have ku0 := (gm.cell (p := ⟨u9, 0, none⟩) zu).trans u0
              have ku1 := (gm.cell (p := ⟨u9, 1, none⟩) zu).trans u1
              have ku2 := (gm.cell (p := ⟨u9, 2, none⟩) zu).trans u2
              have ku3 := (gm.cell (p := ⟨u9, 3, none⟩) zu).trans u3
              have kzS := Nat.lt_of_lt_of_le zS gm.size
              have kzc := Nat.lt_of_lt_of_le zc gm.size
              have kzt := Nat.lt_of_lt_of_le zt gm.size
              have kzu := Nat.lt_of_lt_of_le zu gm.size
              clear hb2
              go_wp2_with fail
              refine hK.out _ _ ?_ (fun hHeld => ?_)
              · (try dsimp only); exact ⟨ks2, kt0, kt1, kt2, kt3, ku0, ku1, ku2, ku3⟩
              clear hK K
              (try simp only [Act.put, List.setIfInBounds_toArray, List.set_cons_zero, List.set_cons_succ])
              refine wpAnyH_ready (rs := [11]) (by kernel_rfl) (by simp) ?_
              refine AllReadyH.cons rfl (fun K hK => ?_) AllReadyH.nil
              go_simp
              refine hK.out _ _ ?_ (fun hHeld => ?_)
              · (try dsimp only); simp [go_sem, ks2, kt0, kt1, kt2, kt3, ku0, ku1, ku2, ku3, kzS, kzt, kzu]
              clear hK K
              (try simp only [Act.put, List.setIfInBounds_toArray, List.set_cons_zero, List.set_cons_succ])
              refine wpAnyH_ready (rs := [12]) (by kernel_rfl) (by simp) ?_
              refine AllReadyH.cons rfl (fun K hK => ?_) AllReadyH.nil
              refine step_append_lies _ rfl (.tmp 52) (.tmp 56) 68 rfl L.F 4 i0 _ 1 1 Try.underlying68 HI.out.1 HI.out.2.1 HI.out.2.2.1 HI.out.2.2.2 rfl (by omega) (.slice A0 1 c0) 1 (falses 1) rfl ((owns_on HR2.out gm).alloc _) ⟨w2.heap.size, 0, none⟩ 1 1 [.bool false] rfl rfl (World.news_of_block (heap_alloc_new w2 _)) (by simp [Value.oneCell']) (by omega) (by simp [maxLen]) (by omega) (by have := HV3.out.zF; have := gm.size; simp; omega) _ rfl ?_
              intro g cap w4 hown hgrow hat hlt
              have gm4 : Below L.F w2 w4 := (Below.mono (B := w2.heap.size) (Joins.below_alloc1 _ _) (by have := HV3.out.zF; have := gm.size; omega)).grown hgrow (by have := HV3.out.zF; have := gm.size; simp; omega) (fun k hk => (HR2.out.lt k hk).1)
              have ms2 := ((hgrow.cell_far ⟨L.S, 2, none⟩ (by simp; omega) (fun e => by have h := (HR2.out.lt _ e.symm).1; have h2 := HV3.out.n.S2; simp at h; omega)).trans ((Joins.below_alloc1 w2 _).cell (p := ⟨L.S, 2, none⟩) kzS)).trans ks2
              have mrr := ((hgrow.cell_far ⟨L.cl, 0, none⟩ (by simp; omega) (fun e => by have h := (HR2.out.lt _ e.symm).1; have h2 := HV3.out.n.c2; simp at h; omega)).trans ((Joins.below_alloc1 w2 _).cell (p := ⟨L.cl, 0, none⟩) kzc)).trans krr
              have mt0 := ((hgrow.cell_far ⟨t9, 0, none⟩ (by simp; omega) (fun e => HNB.out e.symm)).trans ((Joins.below_alloc1 w2 _).cell (p := ⟨t9, 0, none⟩) kzt)).trans kt0
              have mt1 := ((hgrow.cell_far ⟨t9, 1, none⟩ (by simp; omega) (fun e => HNB.out e.symm)).trans ((Joins.below_alloc1 w2 _).cell (p := ⟨t9, 1, none⟩) kzt)).trans kt1
              have mt2 := ((hgrow.cell_far ⟨t9, 2, none⟩ (by simp; omega) (fun e => HNB.out e.symm)).trans ((Joins.below_alloc1 w2 _).cell (p := ⟨t9, 2, none⟩) kzt)).trans kt2
              have mt3 := ((hgrow.cell_far ⟨t9, 3, none⟩ (by simp; omega) (fun e => HNB.out e.symm)).trans ((Joins.below_alloc1 w2 _).cell (p := ⟨t9, 3, none⟩) kzt)).trans kt3
              have mu0 := ((hgrow.cell_far ⟨u9, 0, none⟩ (by simp; omega) (fun e => by have h := HGU.out _ e.symm; simp at h)).trans ((Joins.below_alloc1 w2 _).cell (p := ⟨u9, 0, none⟩) kzu)).trans ku0
              have mu1 := ((hgrow.cell_far ⟨u9, 1, none⟩ (by simp; omega) (fun e => by have h := HGU.out _ e.symm; simp at h)).trans ((Joins.below_alloc1 w2 _).cell (p := ⟨u9, 1, none⟩) kzu)).trans ku1
              have mu2 := ((hgrow.cell_far ⟨u9, 2, none⟩ (by simp; omega) (fun e => by have h := HGU.out _ e.symm; simp at h)).trans ((Joins.below_alloc1 w2 _).cell (p := ⟨u9, 2, none⟩) kzu)).trans ku2
              have mu3 := ((hgrow.cell_far ⟨u9, 3, none⟩ (by simp; omega) (fun e => by have h := HGU.out _ e.symm; simp at h)).trans ((Joins.below_alloc1 w2 _).cell (p := ⟨u9, 3, none⟩) kzu)).trans ku3
              have mfc := ((hgrow.frozen_far ⟨L.cl, 0, none⟩ (by simp; omega) (fun e => by have h := (HR2.out.lt _ e.symm).1; have h2 := HV3.out.n.c2; simp at h; omega)).trans ((Joins.below_alloc1 w2 _).frozen (p := ⟨L.cl, 0, none⟩) kzc)).trans ((gm.frozen (p := ⟨L.cl, 0, none⟩) zc).trans (HV3.out.fc 0))
              have mzS := Nat.lt_of_lt_of_le kzS gm4.size
              have mzc := Nat.lt_of_lt_of_le kzc gm4.size
              have mzt := Nat.lt_of_lt_of_le kzt gm4.size
              have mzu := Nat.lt_of_lt_of_le kzu gm4.size
              refine hK.out _ _ ?_ (fun hHeld => ?_)
              · (try dsimp only); exact ⟨ms2, mt0, mt1, mt2, mt3, mu0, mu1, mu2, mu3⟩
              clear hK K
              (try simp only [Act.put, List.setIfInBounds_toArray])
              refine wpAnyH_ready (rs := [13]) (by kernel_rfl) (by simp) ?_
              refine AllReadyH.cons rfl (fun K hK => ?_) AllReadyH.nil
              go_simp
              refine hK.out _ _ ?_ (fun hHeld => ?_)
              · (try dsimp only); exact ⟨ms2, mt0, mt1, mt2, mt3, mu0, mu1, mu2, mu3⟩
              clear hK K
              (try simp only [Act.put, List.setIfInBounds_toArray, List.set_cons_zero, List.set_cons_succ])
              refine wpAnyH_ready (rs := [14]) (by kernel_rfl) (by simp) ?_
              refine AllReadyH.cons rfl (fun K hK => ?_) AllReadyH.nil
              go_simp
              refine hK.out _ _ ?_ (fun hHeld => ?_)
              · (try dsimp only); simp [go_sem, ms2, mt0, mt1, mt2, mt3, mu0, mu1, mu2, mu3]
              clear hK K
              (try simp only [Act.put, List.setIfInBounds_toArray])
              refine wpAnyH_done (by kernel_rfl) ?_ _
              have hfin := HV3.out.app0 (gm.trans ((Joins.below_alloc1 w2 (.cells #[.bool false] 4)).mono gm.size)) rr hgrow hat hown
              have HFIN := Lib.hid hfin
              have hg9 : g ≠ t9 := fun e => by
                  rcases hat with h | h
                  · exact HNB.out (by rw [h, e])
                  · simp at h; omega
              have HNB2 : Hid (∀ v, (w4.setCell ⟨L.cl, 0, none⟩ (.slice (some ⟨g, 0, none⟩) 2 cap)).cell? ⟨L.cl, 0, none⟩ = some v → v.ownBlock ≠ some t9) := Lib.hid (fun v hv => by
                  rw [cell_set_self, mrr] at hv
                  injection hv with hv
                  rw [← hv]
                  exact fun e => hg9 (by injection e))
              have HT9 := Lib.hid (And.intro ((sp_o (i := 0) hct (.slice (some ⟨g, 0, none⟩) 2 cap)).trans mt0) (And.intro ((sp_o (i := 0) hct (.slice (some ⟨g, 0, none⟩) 2 cap)).trans mt1) (And.intro ((sp_o (i := 0) hct (.slice (some ⟨g, 0, none⟩) 2 cap)).trans mt2) ((sp_o (i := 0) hct (.slice (some ⟨g, 0, none⟩) 2 cap)).trans mt3))))
              clear hfin hg9 hown hgrow hat hlt gm gm4 s2 rr t0 t1 t2 t3 u0 u1 u2 u3 ks2 krr kt0 kt1 kt2 kt3 ku0 ku1 ku2 ku3 ms2 mrr mt0 mt1 mt2 mt3 mu0 mu1 mu2 mu3
              go_wp2
              go_roundw
              case rel => exact ⟨.inr (.inr ⟨by go_num, HFIN.out⟩), HT9.out.1, HT9.out.2.1, HT9.out.2.2.1, HT9.out.2.2.2, by simpa using mzt, HNB2.out⟩
              case measure => simp [intOf]
            · go_simp
              (go_at_call 48; refine (clash_any 1 10 2 20 _).mono ?_)
              rintro e w2 ⟨rfl, hb2⟩
              have gm : Below W.heap.size W w2 := thru (below_drew (Below.refl _ _)) hb2 (by simp)
              have ks2 := (gm.cell (p := ⟨L.S, 2, none⟩) zS).trans s2
              have krr := (gm.cell (p := ⟨L.cl, 0, none⟩) zc).trans rr
              have kt0 := (gm.cell (p := ⟨t9, 0, none⟩) zt).trans t0
              have kt1 := (gm.cell (p := ⟨t9, 1, none⟩) zt).trans t1
              have kt2 := (gm.cell (p := ⟨t9, 2, none⟩) zt).trans t2
              have kt3 := (gm.cell (p := ⟨t9, 3, none⟩) zt).trans t3
              have ku0 := (gm.cell (p := ⟨u9, 0, none⟩) zu).trans u0
              have ku1 := (gm.cell (p := ⟨u9, 1, none⟩) zu).trans u1
              have ku2 := (gm.cell (p := ⟨u9, 2, none⟩) zu).trans u2
              have ku3 := (gm.cell (p := ⟨u9, 3, none⟩) zu).trans u3
              have kzS := Nat.lt_of_lt_of_le zS gm.size
              have kzc := Nat.lt_of_lt_of_le zc gm.size
              have kzt := Nat.lt_of_lt_of_le zt gm.size
              have kzu := Nat.lt_of_lt_of_le zu gm.size
              clear hb2
              go_wp2_with fail
              refine hK.out _ _ ?_ (fun hHeld => ?_)
              · (try dsimp only); exact ⟨ks2, kt0, kt1, kt2, kt3, ku0, ku1, ku2, ku3⟩
              clear hK K
              (try simp only [Act.put, List.setIfInBounds_toArray, List.set_cons_zero, List.set_cons_succ])
              refine wpAnyH_ready (rs := [7, 11]) (by kernel_rfl) (by simp) ?_
              refine AllReadyH.cons rfl (fun K hK => ?_) (AllReadyH.cons rfl (fun K hK => ?_) AllReadyH.nil)
              · go_simp
                refine hK.out _ _ ?_ (fun hHeld => ?_)
                · (try dsimp only); exact ⟨ks2, kt0, kt1, kt2, kt3, ku0, ku1, ku2, ku3⟩
                clear hK K
                (try simp only [Act.put, List.setIfInBounds_toArray, List.set_cons_zero, List.set_cons_succ])
                refine wpAnyH_ready (rs := [11]) (by kernel_rfl) (by simp) ?_
                refine AllReadyH.cons rfl (fun K hK => ?_) AllReadyH.nil
                go_simp
                refine hK.out _ _ ?_ (fun hHeld => ?_)
                · (try dsimp only); simp [go_sem, ks2, kt0, kt1, kt2, kt3, ku0, ku1, ku2, ku3, kzS, kzt, kzu]
                clear hK K
                (try simp only [Act.put, List.setIfInBounds_toArray, List.set_cons_zero, List.set_cons_succ])
                refine wpAnyH_ready (rs := [12]) (by kernel_rfl) (by simp) ?_
                refine AllReadyH.cons rfl (fun K hK => ?_) AllReadyH.nil
                refine step_append_lies _ rfl (.tmp 52) (.tmp 56) 68 rfl L.F 4 i0 _ 1 1 Try.underlying68 HI.out.1 HI.out.2.1 HI.out.2.2.1 HI.out.2.2.2 rfl (by omega) (.slice A0 1 c0) 1 (falses 1) rfl ((owns_on HR2.out gm).alloc _) ⟨w2.heap.size, 0, none⟩ 1 1 [.bool false] rfl rfl (World.news_of_block (heap_alloc_new w2 _)) (by simp [Value.oneCell']) (by omega) (by simp [maxLen]) (by omega) (by have := HV3.out.zF; have := gm.size; simp; omega) _ rfl ?_
                intro g cap w4 hown hgrow hat hlt
                have gm4 : Below L.F w2 w4 := (Below.mono (B := w2.heap.size) (Joins.below_alloc1 _ _) (by have := HV3.out.zF; have := gm.size; omega)).grown hgrow (by have := HV3.out.zF; have := gm.size; simp; omega) (fun k hk => (HR2.out.lt k hk).1)
                have ms2 := ((hgrow.cell_far ⟨L.S, 2, none⟩ (by simp; omega) (fun e => by have h := (HR2.out.lt _ e.symm).1; have h2 := HV3.out.n.S2; simp at h; omega)).trans ((Joins.below_alloc1 w2 _).cell (p := ⟨L.S, 2, none⟩) kzS)).trans ks2
                have mrr := ((hgrow.cell_far ⟨L.cl, 0, none⟩ (by simp; omega) (fun e => by have h := (HR2.out.lt _ e.symm).1; have h2 := HV3.out.n.c2; simp at h; omega)).trans ((Joins.below_alloc1 w2 _).cell (p := ⟨L.cl, 0, none⟩) kzc)).trans krr
                have mt0 := ((hgrow.cell_far ⟨t9, 0, none⟩ (by simp; omega) (fun e => HNB.out e.symm)).trans ((Joins.below_alloc1 w2 _).cell (p := ⟨t9, 0, none⟩) kzt)).trans kt0
                have mt1 := ((hgrow.cell_far ⟨t9, 1, none⟩ (by simp; omega) (fun e => HNB.out e.symm)).trans ((Joins.below_alloc1 w2 _).cell (p := ⟨t9, 1, none⟩) kzt)).trans kt1
                have mt2 := ((hgrow.cell_far ⟨t9, 2, none⟩ (by simp; omega) (fun e => HNB.out e.symm)).trans ((Joins.below_alloc1 w2 _).cell (p := ⟨t9, 2, none⟩) kzt)).trans kt2
                have mt3 := ((hgrow.cell_far ⟨t9, 3, none⟩ (by simp; omega) (fun e => HNB.out e.symm)).trans ((Joins.below_alloc1 w2 _).cell (p := ⟨t9, 3, none⟩) kzt)).trans kt3
                have mu0 := ((hgrow.cell_far ⟨u9, 0, none⟩ (by simp; omega) (fun e => by have h := HGU.out _ e.symm; simp at h)).trans ((Joins.below_alloc1 w2 _).cell (p := ⟨u9, 0, none⟩) kzu)).trans ku0
                have mu1 := ((hgrow.cell_far ⟨u9, 1, none⟩ (by simp; omega) (fun e => by have h := HGU.out _ e.symm; simp at h)).trans ((Joins.below_alloc1 w2 _).cell (p := ⟨u9, 1, none⟩) kzu)).trans ku1
                have mu2 := ((hgrow.cell_far ⟨u9, 2, none⟩ (by simp; omega) (fun e => by have h := HGU.out _ e.symm; simp at h)).trans ((Joins.below_alloc1 w2 _).cell (p := ⟨u9, 2, none⟩) kzu)).trans ku2
                have mu3 := ((hgrow.cell_far ⟨u9, 3, none⟩ (by simp; omega) (fun e => by have h := HGU.out _ e.symm; simp at h)).trans ((Joins.below_alloc1 w2 _).cell (p := ⟨u9, 3, none⟩) kzu)).trans ku3
                have mfc := ((hgrow.frozen_far ⟨L.cl, 0, none⟩ (by simp; omega) (fun e => by have h := (HR2.out.lt _ e.symm).1; have h2 := HV3.out.n.c2; simp at h; omega)).trans ((Joins.below_alloc1 w2 _).frozen (p := ⟨L.cl, 0, none⟩) kzc)).trans ((gm.frozen (p := ⟨L.cl, 0, none⟩) zc).trans (HV3.out.fc 0))
                have mzS := Nat.lt_of_lt_of_le kzS gm4.size
                have mzc := Nat.lt_of_lt_of_le kzc gm4.size
                have mzt := Nat.lt_of_lt_of_le kzt gm4.size
                have mzu := Nat.lt_of_lt_of_le kzu gm4.size
                refine hK.out _ _ ?_ (fun hHeld => ?_)
                · (try dsimp only); exact ⟨ms2, mt0, mt1, mt2, mt3, mu0, mu1, mu2, mu3⟩
                clear hK K
                (try simp only [Act.put, List.setIfInBounds_toArray])
                refine wpAnyH_ready (rs := [13]) (by kernel_rfl) (by simp) ?_
                refine AllReadyH.cons rfl (fun K hK => ?_) AllReadyH.nil
                go_simp
                refine hK.out _ _ ?_ (fun hHeld => ?_)
                · (try dsimp only); exact ⟨ms2, mt0, mt1, mt2, mt3, mu0, mu1, mu2, mu3⟩
                clear hK K
                (try simp only [Act.put, List.setIfInBounds_toArray, List.set_cons_zero, List.set_cons_succ])
                refine wpAnyH_ready (rs := [14]) (by kernel_rfl) (by simp) ?_
                refine AllReadyH.cons rfl (fun K hK => ?_) AllReadyH.nil
                go_simp
                refine hK.out _ _ ?_ (fun hHeld => ?_)
                · (try dsimp only); simp [go_sem, ms2, mt0, mt1, mt2, mt3, mu0, mu1, mu2, mu3]
                clear hK K
                (try simp only [Act.put, List.setIfInBounds_toArray])
                refine wpAnyH_done (by kernel_rfl) ?_ _
                have hfin := HV3.out.app0 (gm.trans ((Joins.below_alloc1 w2 (.cells #[.bool false] 4)).mono gm.size)) rr hgrow hat hown
                have HFIN := Lib.hid hfin
                have hg9 : g ≠ t9 := fun e => by
                    rcases hat with h | h
                    · exact HNB.out (by rw [h, e])
                    · simp at h; omega
                have HNB2 : Hid (∀ v, (w4.setCell ⟨L.cl, 0, none⟩ (.slice (some ⟨g, 0, none⟩) 2 cap)).cell? ⟨L.cl, 0, none⟩ = some v → v.ownBlock ≠ some t9) := Lib.hid (fun v hv => by
                    rw [cell_set_self, mrr] at hv
                    injection hv with hv
                    rw [← hv]
                    exact fun e => hg9 (by injection e))
                have HT9 := Lib.hid (And.intro ((sp_o (i := 0) hct (.slice (some ⟨g, 0, none⟩) 2 cap)).trans mt0) (And.intro ((sp_o (i := 0) hct (.slice (some ⟨g, 0, none⟩) 2 cap)).trans mt1) (And.intro ((sp_o (i := 0) hct (.slice (some ⟨g, 0, none⟩) 2 cap)).trans mt2) ((sp_o (i := 0) hct (.slice (some ⟨g, 0, none⟩) 2 cap)).trans mt3))))
                clear hfin hg9 hown hgrow hat hlt gm gm4 s2 rr t0 t1 t2 t3 u0 u1 u2 u3 ks2 krr kt0 kt1 kt2 kt3 ku0 ku1 ku2 ku3 ms2 mrr mt0 mt1 mt2 mt3 mu0 mu1 mu2 mu3
                go_wp2
                go_roundw
                case rel => exact ⟨.inr (.inr ⟨by go_num, HFIN.out⟩), HT9.out.1, HT9.out.2.1, HT9.out.2.2.1, HT9.out.2.2.2, by simpa using mzt, HNB2.out⟩
                case measure => simp [intOf]
              · go_simp
                refine hK.out _ _ ?_ (fun hHeld => ?_)
                · (try dsimp only); simp [go_sem, ks2, kt0, kt1, kt2, kt3, ku0, ku1, ku2, ku3, kzS, kzt, kzu]
                clear hK K
                (try simp only [Act.put, List.setIfInBounds_toArray, List.set_cons_zero, List.set_cons_succ])
                refine wpAnyH_ready (rs := [7]) (by kernel_rfl) (by simp) ?_
                refine AllReadyH.cons rfl (fun K hK => ?_) AllReadyH.nil
                go_simp
                refine hK.out _ _ ?_ (fun hHeld => ?_)
                · (try dsimp only); simp [go_sem, ks2, kt0, kt1, kt2, kt3, ku0, ku1, ku2, ku3, kzS, kzt, kzu]
                clear hK K
                (try simp only [Act.put, List.setIfInBounds_toArray, List.set_cons_zero, List.set_cons_succ])
                refine wpAnyH_ready (rs := [12]) (by kernel_rfl) (by simp) ?_
                refine AllReadyH.cons rfl (fun K hK => ?_) AllReadyH.nil
                refine step_append_lies _ rfl (.tmp 52) (.tmp 56) 68 rfl L.F 4 i0 _ 1 1 Try.underlying68 HI.out.1 HI.out.2.1 HI.out.2.2.1 HI.out.2.2.2 rfl (by omega) (.slice A0 1 c0) 1 (falses 1) rfl ((owns_on HR2.out gm).alloc _) ⟨w2.heap.size, 0, none⟩ 1 1 [.bool false] rfl rfl (World.news_of_block (heap_alloc_new w2 _)) (by simp [Value.oneCell']) (by omega) (by simp [maxLen]) (by omega) (by have := HV3.out.zF; have := gm.size; simp; omega) _ rfl ?_
                intro g cap w4 hown hgrow hat hlt
                have gm4 : Below L.F w2 w4 := (Below.mono (B := w2.heap.size) (Joins.below_alloc1 _ _) (by have := HV3.out.zF; have := gm.size; omega)).grown hgrow (by have := HV3.out.zF; have := gm.size; simp; omega) (fun k hk => (HR2.out.lt k hk).1)
                have ms2 := ((hgrow.cell_far ⟨L.S, 2, none⟩ (by simp; omega) (fun e => by have h := (HR2.out.lt _ e.symm).1; have h2 := HV3.out.n.S2; simp at h; omega)).trans ((Joins.below_alloc1 w2 _).cell (p := ⟨L.S, 2, none⟩) kzS)).trans ks2
                have mrr := ((hgrow.cell_far ⟨L.cl, 0, none⟩ (by simp; omega) (fun e => by have h := (HR2.out.lt _ e.symm).1; have h2 := HV3.out.n.c2; simp at h; omega)).trans ((Joins.below_alloc1 w2 _).cell (p := ⟨L.cl, 0, none⟩) kzc)).trans krr
                have mt0 := ((hgrow.cell_far ⟨t9, 0, none⟩ (by simp; omega) (fun e => HNB.out e.symm)).trans ((Joins.below_alloc1 w2 _).cell (p := ⟨t9, 0, none⟩) kzt)).trans kt0
                have mt1 := ((hgrow.cell_far ⟨t9, 1, none⟩ (by simp; omega) (fun e => HNB.out e.symm)).trans ((Joins.below_alloc1 w2 _).cell (p := ⟨t9, 1, none⟩) kzt)).trans kt1
                have mt2 := ((hgrow.cell_far ⟨t9, 2, none⟩ (by simp; omega) (fun e => HNB.out e.symm)).trans ((Joins.below_alloc1 w2 _).cell (p := ⟨t9, 2, none⟩) kzt)).trans kt2
                have mt3 := ((hgrow.cell_far ⟨t9, 3, none⟩ (by simp; omega) (fun e => HNB.out e.symm)).trans ((Joins.below_alloc1 w2 _).cell (p := ⟨t9, 3, none⟩) kzt)).trans kt3
                have mu0 := ((hgrow.cell_far ⟨u9, 0, none⟩ (by simp; omega) (fun e => by have h := HGU.out _ e.symm; simp at h)).trans ((Joins.below_alloc1 w2 _).cell (p := ⟨u9, 0, none⟩) kzu)).trans ku0
                have mu1 := ((hgrow.cell_far ⟨u9, 1, none⟩ (by simp; omega) (fun e => by have h := HGU.out _ e.symm; simp at h)).trans ((Joins.below_alloc1 w2 _).cell (p := ⟨u9, 1, none⟩) kzu)).trans ku1
                have mu2 := ((hgrow.cell_far ⟨u9, 2, none⟩ (by simp; omega) (fun e => by have h := HGU.out _ e.symm; simp at h)).trans ((Joins.below_alloc1 w2 _).cell (p := ⟨u9, 2, none⟩) kzu)).trans ku2
                have mu3 := ((hgrow.cell_far ⟨u9, 3, none⟩ (by simp; omega) (fun e => by have h := HGU.out _ e.symm; simp at h)).trans ((Joins.below_alloc1 w2 _).cell (p := ⟨u9, 3, none⟩) kzu)).trans ku3
                have mfc := ((hgrow.frozen_far ⟨L.cl, 0, none⟩ (by simp; omega) (fun e => by have h := (HR2.out.lt _ e.symm).1; have h2 := HV3.out.n.c2; simp at h; omega)).trans ((Joins.below_alloc1 w2 _).frozen (p := ⟨L.cl, 0, none⟩) kzc)).trans ((gm.frozen (p := ⟨L.cl, 0, none⟩) zc).trans (HV3.out.fc 0))
                have mzS := Nat.lt_of_lt_of_le kzS gm4.size
                have mzc := Nat.lt_of_lt_of_le kzc gm4.size
                have mzt := Nat.lt_of_lt_of_le kzt gm4.size
                have mzu := Nat.lt_of_lt_of_le kzu gm4.size
                refine hK.out _ _ ?_ (fun hHeld => ?_)
                · (try dsimp only); exact ⟨ms2, mt0, mt1, mt2, mt3, mu0, mu1, mu2, mu3⟩
                clear hK K
                (try simp only [Act.put, List.setIfInBounds_toArray])
                refine wpAnyH_ready (rs := [13]) (by kernel_rfl) (by simp) ?_
                refine AllReadyH.cons rfl (fun K hK => ?_) AllReadyH.nil
                go_simp
                refine hK.out _ _ ?_ (fun hHeld => ?_)
                · (try dsimp only); exact ⟨ms2, mt0, mt1, mt2, mt3, mu0, mu1, mu2, mu3⟩
                clear hK K
                (try simp only [Act.put, List.setIfInBounds_toArray, List.set_cons_zero, List.set_cons_succ])
                refine wpAnyH_ready (rs := [14]) (by kernel_rfl) (by simp) ?_
                refine AllReadyH.cons rfl (fun K hK => ?_) AllReadyH.nil
                go_simp
                refine hK.out _ _ ?_ (fun hHeld => ?_)
                · (try dsimp only); simp [go_sem, ms2, mt0, mt1, mt2, mt3, mu0, mu1, mu2, mu3]
                clear hK K
                (try simp only [Act.put, List.setIfInBounds_toArray])
                refine wpAnyH_done (by kernel_rfl) ?_ _
                have hfin := HV3.out.app0 (gm.trans ((Joins.below_alloc1 w2 (.cells #[.bool false] 4)).mono gm.size)) rr hgrow hat hown
                have HFIN := Lib.hid hfin
                have hg9 : g ≠ t9 := fun e => by
                    rcases hat with h | h
                    · exact HNB.out (by rw [h, e])
                    · simp at h; omega
                have HNB2 : Hid (∀ v, (w4.setCell ⟨L.cl, 0, none⟩ (.slice (some ⟨g, 0, none⟩) 2 cap)).cell? ⟨L.cl, 0, none⟩ = some v → v.ownBlock ≠ some t9) := Lib.hid (fun v hv => by
                    rw [cell_set_self, mrr] at hv
                    injection hv with hv
                    rw [← hv]
                    exact fun e => hg9 (by injection e))
                have HT9 := Lib.hid (And.intro ((sp_o (i := 0) hct (.slice (some ⟨g, 0, none⟩) 2 cap)).trans mt0) (And.intro ((sp_o (i := 0) hct (.slice (some ⟨g, 0, none⟩) 2 cap)).trans mt1) (And.intro ((sp_o (i := 0) hct (.slice (some ⟨g, 0, none⟩) 2 cap)).trans mt2) ((sp_o (i := 0) hct (.slice (some ⟨g, 0, none⟩) 2 cap)).trans mt3))))
                clear hfin hg9 hown hgrow hat hlt gm gm4 s2 rr t0 t1 t2 t3 u0 u1 u2 u3 ks2 krr kt0 kt1 kt2 kt3 ku0 ku1 ku2 ku3 ms2 mrr mt0 mt1 mt2 mt3 mu0 mu1 mu2 mu3
                go_wp2
                go_roundw
                case rel => exact ⟨.inr (.inr ⟨by go_num, HFIN.out⟩), HT9.out.1, HT9.out.2.1, HT9.out.2.2.1, HT9.out.2.2.2, by simpa using mzt, HNB2.out⟩
                case measure => simp [intOf]

          · go_wp2
            go_roundw
            case rel => exact .inr (.inl ⟨by go_num, HV3.out⟩)
            case measure => simp [intOf]
      · have hbw : Below w.heap.size w wr := by have h := hV.be; rw [HL.out.2.2] at h; exact h
        obtain ⟨a0, a1, a2, a3, b0, b1, b2, b3⟩ := HM.out.on HZ.out.1 hbw
        have hV2 := (hV.setE 31).on (Joins.below_alloc1 (wr.setCell ⟨L.S, 5, none⟩ (.int .i64 31)) (.cells #[.int .i64 2, .int .i64 20, .bool false, .slice none 0 0] 64))
        have HV := Lib.hid hV
        have HV2 := Lib.hid hV2
        have zb : b < wr.heap.size := Nat.lt_of_lt_of_le HZ.out.1 hbw.size
        have s5 := hV.s5
        have f5 := hV.f5 5
        have zS : L.S < wr.heap.size := Nat.lt_of_lt_of_le hV.n.S2 hV.zF
        clear hV hV2 hbw
        rename World => wo
        go_wp2
        go_loopw [41] (fun j wi => ((j = .int .i64 0 ∧ BV L w wi 2 0 31) ∨ (j = .int .i64 1 ∧ BV L w wi 2 1 31) ∨ (j = .int .i64 2 ∧ BV L w wi 2 2 31)) ∧ wi.cell? ⟨wo.heap.size, 0, none⟩ = some (.int .i64 2) ∧ wi.cell? ⟨wo.heap.size, 1, none⟩ = some (.int .i64 20) ∧ wi.cell? ⟨wo.heap.size, 2, none⟩ = some (.bool false) ∧ wi.cell? ⟨wo.heap.size, 3, none⟩ = some (.slice none 0 0) ∧ wo.heap.size < wi.heap.size ∧ (∀ v, wi.cell? ⟨L.cl, 1, none⟩ = some v → v.ownBlock ≠ some wo.heap.size)) (fun j _ => 2 - (intOf j).toNat)
        case atStart => exact ⟨.inl ⟨rfl, HV2.out⟩, by simp [go_sem], by simp [go_sem], by simp [go_sem], by simp [go_sem], by simp, HV2.out.r1⟩
        case round =>
          obtain ⟨hj, t0, t1, t2, t3, zt, hnb⟩ := hrel
          have ht9 : L.F ≤ wo.heap.size := HV.out.zF
          have hS9 : L.S < wo.heap.size := zS
          clear s5 f5 zS a0 a1 a2 a3 b0 b1 b2 b3 zb
          generalize wo.heap.size = t9 at *
          rcases hj with ⟨rfl, hV3⟩ | ⟨rfl, hV3⟩ | ⟨rfl, hV3⟩
          all_goals
            have hbw : Below w.heap.size w wr := by have h := hV3.be; rw [HL.out.2.2] at h; exact h
            obtain ⟨a0, a1, a2, a3, b0, b1, b2, b3⟩ := HM.out.on HZ.out.1 hbw
            have zb : b < wr.heap.size := Nat.lt_of_lt_of_le HZ.out.1 hbw.size
            have HV3 := Lib.hid hV3
            clear hbw hV3
          · have hn := HV3.out.n
            obtain ⟨A0, c0, A1, c1, r1, r2, r3, r4, r5, r6, r7⟩ := HV3.out.r
            have HR2 := Lib.hid r4
            have hW := HV3.out.on (Joins.below_alloc1 wr (.cells #[.int .i64 1, .int .i64 10, .bool false, .slice none 0 0] 64))
            have HVW := Lib.hid hW
            have s2 := HV3.out.s2
            have rr := r3
            have zS : L.S < wr.heap.size := Nat.lt_of_lt_of_le hn.S2 HV3.out.zF
            have zc : L.cl < wr.heap.size := Nat.lt_of_lt_of_le hn.c2 HV3.out.zF
            have HOW := Lib.hid (owns_on r4 (Joins.below_alloc1 wr (.cells #[.int .i64 1, .int .i64 10, .bool false, .slice none 0 0] 64)))
            have zF := HV3.out.zF
            have HNB := Lib.hid (hnb _ rr)
            have hSc : L.cl ≠ L.S := hn.Sc.symm
            have hct : L.cl ≠ t9 := by have := hn.c2; omega
            have hcu : L.cl ≠ wr.heap.size := by have := hn.c2; have := HV3.out.zF; omega
            have HGU : Hid (∀ k, Value.ownBlock (.slice A1 0 c1) = some k → k < wr.heap.size) := Lib.hid (fun k hk => (r4.lt k hk).2)
            have HFC : Hid (∀ k, wr.frozen? ⟨L.cl, k, none⟩ = false) := Lib.hid HV3.out.fc
            clear r2 r4 r5 r6 r7 hn r1 r3 hW hnb
            go_upto_region 11 with fail
            have u0 : (wr.alloc (.cells #[.int .i64 1, .int .i64 10, .bool false, .slice none 0 0] 64)).cell? ⟨wr.heap.size, 0, none⟩ = some (.int .i64 1) := by simp [go_sem]
            have u1 : (wr.alloc (.cells #[.int .i64 1, .int .i64 10, .bool false, .slice none 0 0] 64)).cell? ⟨wr.heap.size, 1, none⟩ = some (.int .i64 10) := by simp [go_sem]
            have u2 : (wr.alloc (.cells #[.int .i64 1, .int .i64 10, .bool false, .slice none 0 0] 64)).cell? ⟨wr.heap.size, 2, none⟩ = some (.bool false) := by simp [go_sem]
            have u3 : (wr.alloc (.cells #[.int .i64 1, .int .i64 10, .bool false, .slice none 0 0] 64)).cell? ⟨wr.heap.size, 3, none⟩ = some (.slice none 0 0) := by simp [go_sem]
            have hbx := Joins.below_alloc1 wr (.cells #[.int .i64 1, .int .i64 10, .bool false, .slice none 0 0] 64)
            replace s2 := (hbx.cell (p := ⟨L.S, 2, none⟩) zS).trans s2
            replace rr := (hbx.cell (p := ⟨L.cl, 1, none⟩) zc).trans rr
            replace t0 := (hbx.cell (p := ⟨t9, 0, none⟩) zt).trans t0
            replace t1 := (hbx.cell (p := ⟨t9, 1, none⟩) zt).trans t1
            replace t2 := (hbx.cell (p := ⟨t9, 2, none⟩) zt).trans t2
            replace t3 := (hbx.cell (p := ⟨t9, 3, none⟩) zt).trans t3
            have zu : wr.heap.size < (wr.alloc (.cells #[.int .i64 1, .int .i64 10, .bool false, .slice none 0 0] 64)).heap.size := by simp
            replace zS := Nat.lt_of_lt_of_le zS hbx.size
            replace zc := Nat.lt_of_lt_of_le zc hbx.size
            replace zt := Nat.lt_of_lt_of_le zt hbx.size
            have hu9 : L.F ≤ wr.heap.size := zF
            clear hbx a0 a1 a2 a3 b0 b1 b2 b3 zb zF HV3
            have HV3 := HVW
            clear HVW HR2
            have HR2 := HOW
            clear HOW
            generalize wr.heap.size = u9 at *
            generalize wr.alloc (.cells #[.int .i64 1, .int .i64 10, .bool false, .slice none 0 0] 64) = W at *
            refine wp_region_held_drew (S := fun w' => w'.cell? ⟨L.S, 2, none⟩ = some (.slice (some ⟨L.cl, 0, none⟩) 2 2) ∧ w'.cell? ⟨t9, 0, none⟩ = some (.int .i64 2) ∧ w'.cell? ⟨t9, 1, none⟩ = some (.int .i64 20) ∧ w'.cell? ⟨t9, 2, none⟩ = some (.bool false) ∧ w'.cell? ⟨t9, 3, none⟩ = some (.slice none 0 0) ∧ w'.cell? ⟨u9, 0, none⟩ = some (.int .i64 1) ∧ w'.cell? ⟨u9, 1, none⟩ = some (.int .i64 10) ∧ w'.cell? ⟨u9, 2, none⟩ = some (.bool false) ∧ w'.cell? ⟨u9, 3, none⟩ = some (.slice none 0 0)) (by kernel_rfl) ?_ (fun hHeld => ?_)
            · (try dsimp only); exact ⟨s2, t0, t1, t2, t3, u0, u1, u2, u3⟩
            refine wpAnyH_take (i := 0) (oi := ?oi10_0) (v := ?v10_0) ?hi10_0 ?ha10_0 ?hb10_0 ?hc10_0 ?hq10_0 (Or.inl ⟨?hw10_0, ?hy10_0⟩) (by assumption) ?rest10_0
            case hi10_0 => simp only [List.getElem?_toArray, List.getElem?_cons_zero]; rfl
            case ha10_0 => kernel_rfl
            case hb10_0 => kernel_rfl
            case hc10_0 => kernel_rfl
            case hq10_0 => exact fun _ _ _ h => h
            case hw10_0 => kernel_rfl
            case hy10_0 => intro w hSw; (try dsimp only at hSw); go_simp; (try with_reducible rfl)
            (try simp only [Act.put, List.setIfInBounds_toArray, List.set_cons_zero, List.set_cons_succ])
            refine wpAnyH_take (i := 1) (oi := ?oi10_1) (v := ?v10_1) ?hi10_1 ?ha10_1 ?hb10_1 ?hc10_1 ?hq10_1 (Or.inl ⟨?hw10_1, ?hy10_1⟩) (by assumption) ?rest10_1
            case hi10_1 => simp only [List.getElem?_toArray, List.getElem?_cons_succ, List.getElem?_cons_zero]; rfl
            case ha10_1 => kernel_rfl
            case hb10_1 => kernel_rfl
            case hc10_1 => kernel_rfl
            case hq10_1 => exact fun _ _ _ h => h
            case hw10_1 => kernel_rfl
            case hy10_1 => intro w hSw; (try dsimp only at hSw); go_simp; (try with_reducible rfl)
            (try simp only [Act.put, List.setIfInBounds_toArray, List.set_cons_zero, List.set_cons_succ])
            refine wpAnyH_take (i := 2) (oi := ?oi10_2) (v := ?v10_2) ?hi10_2 ?ha10_2 ?hb10_2 ?hc10_2 ?hq10_2 (Or.inl ⟨?hw10_2, ?hy10_2⟩) (by assumption) ?rest10_2
            case hi10_2 => simp only [List.getElem?_toArray, List.getElem?_cons_succ, List.getElem?_cons_zero]; rfl
            case ha10_2 => kernel_rfl
            case hb10_2 => kernel_rfl
            case hc10_2 => kernel_rfl
            case hq10_2 => exact fun _ _ _ h => h
            case hw10_2 => kernel_rfl
            case hy10_2 => intro w hSw; (try dsimp only at hSw); go_simp; (try with_reducible rfl)
            (try simp only [Act.put, List.setIfInBounds_toArray, List.set_cons_zero, List.set_cons_succ])
            refine wpAnyH_take (i := 3) (oi := ?oi10_3) (v := ?v10_3) ?hi10_3 ?ha10_3 ?hb10_3 ?hc10_3 ?hq10_3 (Or.inl ⟨?hw10_3, ?hy10_3⟩) (by assumption) ?rest10_3
            case hi10_3 => simp only [List.getElem?_toArray, List.getElem?_cons_succ, List.getElem?_cons_zero]; rfl
            case ha10_3 => kernel_rfl
            case hb10_3 => kernel_rfl
            case hc10_3 => kernel_rfl
            case hq10_3 => exact fun _ _ _ h => h
            case hw10_3 => kernel_rfl
            case hy10_3 => intro w hSw; (try dsimp only at hSw); go_simp; (try with_reducible rfl)
            (try simp only [Act.put, List.setIfInBounds_toArray, List.set_cons_zero, List.set_cons_succ])
            refine wpAnyH_take (i := 4) (oi := ?oi10_4) (v := ?v10_4) ?hi10_4 ?ha10_4 ?hb10_4 ?hc10_4 ?hq10_4 (Or.inl ⟨?hw10_4, ?hy10_4⟩) (by assumption) ?rest10_4
            case hi10_4 => simp only [List.getElem?_toArray, List.getElem?_cons_succ, List.getElem?_cons_zero]; rfl
            case ha10_4 => kernel_rfl
            case hb10_4 => kernel_rfl
            case hc10_4 => kernel_rfl
            case hq10_4 => exact fun _ _ _ h => h
            case hw10_4 => kernel_rfl
            case hy10_4 => intro w hSw; (try dsimp only at hSw); go_simp; (try with_reducible rfl)
            (try simp only [Act.put, List.setIfInBounds_toArray, List.set_cons_zero, List.set_cons_succ])
            refine wpAnyH_take (i := 5) (oi := ?oi10_5) (v := ?v10_5) ?hi10_5 ?ha10_5 ?hb10_5 ?hc10_5 ?hq10_5 (Or.inl ⟨?hw10_5, ?hy10_5⟩) (by assumption) ?rest10_5
            case hi10_5 => simp only [List.getElem?_toArray, List.getElem?_cons_succ, List.getElem?_cons_zero]; rfl
            case ha10_5 => kernel_rfl
            case hb10_5 => kernel_rfl
            case hc10_5 => kernel_rfl
            case hq10_5 => exact fun _ _ _ h => h
            case hw10_5 => kernel_rfl
            case hy10_5 => intro w hSw; (try dsimp only at hSw); go_simp; (try with_reducible rfl)
            (try simp only [Act.put, List.setIfInBounds_toArray, List.set_cons_zero, List.set_cons_succ])
            refine wpAnyH_take (i := 6) (oi := ?oi10_6) (v := ?v10_6) ?hi10_6 ?ha10_6 ?hb10_6 ?hc10_6 ?hq10_6 (Or.inl ⟨?hw10_6, ?hy10_6⟩) (by assumption) ?rest10_6
            case hi10_6 => simp only [List.getElem?_toArray, List.getElem?_cons_succ, List.getElem?_cons_zero]; rfl
            case ha10_6 => kernel_rfl
            case hb10_6 => kernel_rfl
            case hc10_6 => kernel_rfl
            case hq10_6 => exact fun _ _ _ h => h
            case hw10_6 => kernel_rfl
            case hy10_6 => intro w hSw; (try dsimp only at hSw); go_simp; (try with_reducible rfl)
            (try simp only [Act.put, List.setIfInBounds_toArray, List.set_cons_zero, List.set_cons_succ])
            refine wpAnyH_take (i := 8) (oi := ?oi10_8) (v := ?v10_8) ?hi10_8 ?ha10_8 ?hb10_8 ?hc10_8 ?hq10_8 (Or.inl ⟨?hw10_8, ?hy10_8⟩) (by assumption) ?rest10_8
            case hi10_8 => simp only [List.getElem?_toArray, List.getElem?_cons_succ, List.getElem?_cons_zero]; rfl
            case ha10_8 => kernel_rfl
            case hb10_8 => kernel_rfl
            case hc10_8 => kernel_rfl
            case hq10_8 => exact fun _ _ _ h => h
            case hw10_8 => kernel_rfl
            case hy10_8 => intro w hSw; (try dsimp only at hSw); go_simp; (try with_reducible rfl)
            (try simp only [Act.put, List.setIfInBounds_toArray, List.set_cons_zero, List.set_cons_succ])
            refine wpAnyH_take (i := 9) (oi := ?oi10_9) (v := ?v10_9) ?hi10_9 ?ha10_9 ?hb10_9 ?hc10_9 ?hq10_9 (Or.inl ⟨?hw10_9, ?hy10_9⟩) (by assumption) ?rest10_9
            case hi10_9 => simp only [List.getElem?_toArray, List.getElem?_cons_succ, List.getElem?_cons_zero]; rfl
            case ha10_9 => kernel_rfl
            case hb10_9 => kernel_rfl
            case hc10_9 => kernel_rfl
            case hq10_9 => exact fun _ _ _ h => h
            case hw10_9 => kernel_rfl
            case hy10_9 => intro w hSw; (try dsimp only at hSw); go_simp; (try with_reducible rfl)
            (try simp only [Act.put, List.setIfInBounds_toArray, List.set_cons_zero, List.set_cons_succ])
            refine wpAnyH_ready (rs := [7, 10]) (by kernel_rfl) (by simp) ?_
            refine AllReadyH.cons rfl (fun K hK => ?_) (AllReadyH.cons rfl (fun K hK => ?_) AllReadyH.nil)
            · go_simp
              refine hK.out _ _ ?_ (fun hHeld => ?_)
              · (try dsimp only); exact ⟨s2, t0, t1, t2, t3, u0, u1, u2, u3⟩
              clear hK K
              (try simp only [Act.put, List.setIfInBounds_toArray, List.set_cons_zero, List.set_cons_succ])
              refine wpAnyH_ready (rs := [10]) (by kernel_rfl) (by simp) ?_
              refine AllReadyH.cons rfl (fun K hK => ?_) AllReadyH.nil
              go_simp
              (go_at_call 48; refine (clash_any 2 20 1 10 _).mono ?_)
              rintro e w2 ⟨rfl, hb2⟩
              have gm : Below W.heap.size W w2 := thru (below_drew (Below.refl _ _)) hb2 (by simp)
              have ks2 := (gm.cell (p := ⟨L.S, 2, none⟩) zS).trans s2
              have krr := (gm.cell (p := ⟨L.cl, 1, none⟩) zc).trans rr
              have kt0 := (gm.cell (p := ⟨t9, 0, none⟩) zt).trans t0
              have kt1 := (gm.cell (p := ⟨t9, 1, none⟩) zt).trans t1
              have kt2 := (gm.cell (p := ⟨t9, 2, none⟩) zt).trans t2
              have kt3 := (gm.cell (p := ⟨t9, 3, none⟩) zt).trans t3
              have ku0 := (gm.cell (p := ⟨u9, 0, none⟩) zu).trans u0
              have ku1 := (gm.cell (p := ⟨u9, 1, none⟩) zu).trans u1
              have ku2 := (gm.cell (p := ⟨u9, 2, none⟩) zu).trans u2
              have ku3 := (gm.cell (p := ⟨u9, 3, none⟩) zu).trans u3
              have kzS := Nat.lt_of_lt_of_le zS gm.size
              have kzc := Nat.lt_of_lt_of_le zc gm.size
              have kzt := Nat.lt_of_lt_of_le zt gm.size
              have kzu := Nat.lt_of_lt_of_le zu gm.size
              clear hb2
              go_wp2_with fail
              refine hK.out _ _ ?_ (fun hHeld => ?_)
              · (try dsimp only); exact ⟨ks2, kt0, kt1, kt2, kt3, ku0, ku1, ku2, ku3⟩
              clear hK K
              (try simp only [Act.put, List.setIfInBounds_toArray, List.set_cons_zero, List.set_cons_succ])
              refine wpAnyH_ready (rs := [11]) (by kernel_rfl) (by simp) ?_
              refine AllReadyH.cons rfl (fun K hK => ?_) AllReadyH.nil
              go_simp
              refine hK.out _ _ ?_ (fun hHeld => ?_)
              · (try dsimp only); simp [go_sem, ks2, kt0, kt1, kt2, kt3, ku0, ku1, ku2, ku3, kzS, kzt, kzu]
              clear hK K
              (try simp only [Act.put, List.setIfInBounds_toArray, List.set_cons_zero, List.set_cons_succ])
              refine wpAnyH_ready (rs := [12]) (by kernel_rfl) (by simp) ?_
              refine AllReadyH.cons rfl (fun K hK => ?_) AllReadyH.nil
              refine step_append_lies _ rfl (.tmp 52) (.tmp 56) 68 rfl L.F 4 i0 _ 1 1 Try.underlying68 HI.out.1 HI.out.2.1 HI.out.2.2.1 HI.out.2.2.2 rfl (by omega) (.slice A1 0 c1) 0 (falses 0) rfl ((owns_on HR2.out gm).alloc _) ⟨w2.heap.size, 0, none⟩ 1 1 [.bool false] rfl rfl (World.news_of_block (heap_alloc_new w2 _)) (by simp [Value.oneCell']) (by omega) (by simp [maxLen]) (by omega) (by have := HV3.out.zF; have := gm.size; simp; omega) _ rfl ?_
              intro g cap w4 hown hgrow hat hlt
              have gm4 : Below L.F w2 w4 := (Below.mono (B := w2.heap.size) (Joins.below_alloc1 _ _) (by have := HV3.out.zF; have := gm.size; omega)).grown hgrow (by have := HV3.out.zF; have := gm.size; simp; omega) (fun k hk => (HR2.out.lt k hk).1)
              have ms2 := ((hgrow.cell_far ⟨L.S, 2, none⟩ (by simp; omega) (fun e => by have h := (HR2.out.lt _ e.symm).1; have h2 := HV3.out.n.S2; simp at h; omega)).trans ((Joins.below_alloc1 w2 _).cell (p := ⟨L.S, 2, none⟩) kzS)).trans ks2
              have mrr := ((hgrow.cell_far ⟨L.cl, 1, none⟩ (by simp; omega) (fun e => by have h := (HR2.out.lt _ e.symm).1; have h2 := HV3.out.n.c2; simp at h; omega)).trans ((Joins.below_alloc1 w2 _).cell (p := ⟨L.cl, 1, none⟩) kzc)).trans krr
              have mt0 := ((hgrow.cell_far ⟨t9, 0, none⟩ (by simp; omega) (fun e => HNB.out e.symm)).trans ((Joins.below_alloc1 w2 _).cell (p := ⟨t9, 0, none⟩) kzt)).trans kt0
              have mt1 := ((hgrow.cell_far ⟨t9, 1, none⟩ (by simp; omega) (fun e => HNB.out e.symm)).trans ((Joins.below_alloc1 w2 _).cell (p := ⟨t9, 1, none⟩) kzt)).trans kt1
              have mt2 := ((hgrow.cell_far ⟨t9, 2, none⟩ (by simp; omega) (fun e => HNB.out e.symm)).trans ((Joins.below_alloc1 w2 _).cell (p := ⟨t9, 2, none⟩) kzt)).trans kt2
              have mt3 := ((hgrow.cell_far ⟨t9, 3, none⟩ (by simp; omega) (fun e => HNB.out e.symm)).trans ((Joins.below_alloc1 w2 _).cell (p := ⟨t9, 3, none⟩) kzt)).trans kt3
              have mu0 := ((hgrow.cell_far ⟨u9, 0, none⟩ (by simp; omega) (fun e => by have h := HGU.out _ e.symm; simp at h)).trans ((Joins.below_alloc1 w2 _).cell (p := ⟨u9, 0, none⟩) kzu)).trans ku0
              have mu1 := ((hgrow.cell_far ⟨u9, 1, none⟩ (by simp; omega) (fun e => by have h := HGU.out _ e.symm; simp at h)).trans ((Joins.below_alloc1 w2 _).cell (p := ⟨u9, 1, none⟩) kzu)).trans ku1
              have mu2 := ((hgrow.cell_far ⟨u9, 2, none⟩ (by simp; omega) (fun e => by have h := HGU.out _ e.symm; simp at h)).trans ((Joins.below_alloc1 w2 _).cell (p := ⟨u9, 2, none⟩) kzu)).trans ku2
              have mu3 := ((hgrow.cell_far ⟨u9, 3, none⟩ (by simp; omega) (fun e => by have h := HGU.out _ e.symm; simp at h)).trans ((Joins.below_alloc1 w2 _).cell (p := ⟨u9, 3, none⟩) kzu)).trans ku3
              have mfc := ((hgrow.frozen_far ⟨L.cl, 1, none⟩ (by simp; omega) (fun e => by have h := (HR2.out.lt _ e.symm).1; have h2 := HV3.out.n.c2; simp at h; omega)).trans ((Joins.below_alloc1 w2 _).frozen (p := ⟨L.cl, 1, none⟩) kzc)).trans ((gm.frozen (p := ⟨L.cl, 1, none⟩) zc).trans (HV3.out.fc 1))
              have mzS := Nat.lt_of_lt_of_le kzS gm4.size
              have mzc := Nat.lt_of_lt_of_le kzc gm4.size
              have mzt := Nat.lt_of_lt_of_le kzt gm4.size
              have mzu := Nat.lt_of_lt_of_le kzu gm4.size
              refine hK.out _ _ ?_ (fun hHeld => ?_)
              · (try dsimp only); exact ⟨ms2, mt0, mt1, mt2, mt3, mu0, mu1, mu2, mu3⟩
              clear hK K
              (try simp only [Act.put, List.setIfInBounds_toArray])
              refine wpAnyH_ready (rs := [13]) (by kernel_rfl) (by simp) ?_
              refine AllReadyH.cons rfl (fun K hK => ?_) AllReadyH.nil
              go_simp
              refine hK.out _ _ ?_ (fun hHeld => ?_)
              · (try dsimp only); exact ⟨ms2, mt0, mt1, mt2, mt3, mu0, mu1, mu2, mu3⟩
              clear hK K
              (try simp only [Act.put, List.setIfInBounds_toArray, List.set_cons_zero, List.set_cons_succ])
              refine wpAnyH_ready (rs := [14]) (by kernel_rfl) (by simp) ?_
              refine AllReadyH.cons rfl (fun K hK => ?_) AllReadyH.nil
              go_simp
              refine hK.out _ _ ?_ (fun hHeld => ?_)
              · (try dsimp only); simp [go_sem, ms2, mt0, mt1, mt2, mt3, mu0, mu1, mu2, mu3]
              clear hK K
              (try simp only [Act.put, List.setIfInBounds_toArray])
              refine wpAnyH_done (by kernel_rfl) ?_ _
              have hfin := HV3.out.app1 (gm.trans ((Joins.below_alloc1 w2 (.cells #[.bool false] 4)).mono gm.size)) rr hgrow hat hown
              have HFIN := Lib.hid hfin
              have hg9 : g ≠ t9 := fun e => by
                  rcases hat with h | h
                  · exact HNB.out (by rw [h, e])
                  · simp at h; omega
              have HNB2 : Hid (∀ v, (w4.setCell ⟨L.cl, 1, none⟩ (.slice (some ⟨g, 0, none⟩) 1 cap)).cell? ⟨L.cl, 1, none⟩ = some v → v.ownBlock ≠ some t9) := Lib.hid (fun v hv => by
                  rw [cell_set_self, mrr] at hv
                  injection hv with hv
                  rw [← hv]
                  exact fun e => hg9 (by injection e))
              have HT9 := Lib.hid (And.intro ((sp_o (i := 1) hct (.slice (some ⟨g, 0, none⟩) 1 cap)).trans mt0) (And.intro ((sp_o (i := 1) hct (.slice (some ⟨g, 0, none⟩) 1 cap)).trans mt1) (And.intro ((sp_o (i := 1) hct (.slice (some ⟨g, 0, none⟩) 1 cap)).trans mt2) ((sp_o (i := 1) hct (.slice (some ⟨g, 0, none⟩) 1 cap)).trans mt3))))
              clear hfin hg9 hown hgrow hat hlt gm gm4 s2 rr t0 t1 t2 t3 u0 u1 u2 u3 ks2 krr kt0 kt1 kt2 kt3 ku0 ku1 ku2 ku3 ms2 mrr mt0 mt1 mt2 mt3 mu0 mu1 mu2 mu3
              go_wp2
              go_roundw
              case rel => exact ⟨.inr (.inl ⟨by go_num, HFIN.out⟩), HT9.out.1, HT9.out.2.1, HT9.out.2.2.1, HT9.out.2.2.2, by simpa using mzt, HNB2.out⟩
              case measure => simp [intOf]
            · go_simp
              (go_at_call 48; refine (clash_any 2 20 1 10 _).mono ?_)
              rintro e w2 ⟨rfl, hb2⟩
              have gm : Below W.heap.size W w2 := thru (below_drew (Below.refl _ _)) hb2 (by simp)
              have ks2 := (gm.cell (p := ⟨L.S, 2, none⟩) zS).trans s2
              have krr := (gm.cell (p := ⟨L.cl, 1, none⟩) zc).trans rr
              have kt0 := (gm.cell (p := ⟨t9, 0, none⟩) zt).trans t0
              have kt1 := (gm.cell (p := ⟨t9, 1, none⟩) zt).trans t1
              have kt2 := (gm.cell (p := ⟨t9, 2, none⟩) zt).trans t2
              have kt3 := (gm.cell (p := ⟨t9, 3, none⟩) zt).trans t3
              have ku0 := (gm.cell (p := ⟨u9, 0, none⟩) zu).trans u0
              have ku1 := (gm.cell (p := ⟨u9, 1, none⟩) zu).trans u1
              have ku2 := (gm.cell (p := ⟨u9, 2, none⟩) zu).trans u2
              have ku3 := (gm.cell (p := ⟨u9, 3, none⟩) zu).trans u3
              have kzS := Nat.lt_of_lt_of_le zS gm.size
              have kzc := Nat.lt_of_lt_of_le zc gm.size
              have kzt := Nat.lt_of_lt_of_le zt gm.size
              have kzu := Nat.lt_of_lt_of_le zu gm.size
              clear hb2
              go_wp2_with fail
              refine hK.out _ _ ?_ (fun hHeld => ?_)
              · (try dsimp only); exact ⟨ks2, kt0, kt1, kt2, kt3, ku0, ku1, ku2, ku3⟩
              clear hK K
              (try simp only [Act.put, List.setIfInBounds_toArray, List.set_cons_zero, List.set_cons_succ])
              refine wpAnyH_ready (rs := [7, 11]) (by kernel_rfl) (by simp) ?_
              refine AllReadyH.cons rfl (fun K hK => ?_) (AllReadyH.cons rfl (fun K hK => ?_) AllReadyH.nil)
              · go_simp
                refine hK.out _ _ ?_ (fun hHeld => ?_)
                · (try dsimp only); exact ⟨ks2, kt0, kt1, kt2, kt3, ku0, ku1, ku2, ku3⟩
                clear hK K
                (try simp only [Act.put, List.setIfInBounds_toArray, List.set_cons_zero, List.set_cons_succ])
                refine wpAnyH_ready (rs := [11]) (by kernel_rfl) (by simp) ?_
                refine AllReadyH.cons rfl (fun K hK => ?_) AllReadyH.nil
                go_simp
                refine hK.out _ _ ?_ (fun hHeld => ?_)
                · (try dsimp only); simp [go_sem, ks2, kt0, kt1, kt2, kt3, ku0, ku1, ku2, ku3, kzS, kzt, kzu]
                clear hK K
                (try simp only [Act.put, List.setIfInBounds_toArray, List.set_cons_zero, List.set_cons_succ])
                refine wpAnyH_ready (rs := [12]) (by kernel_rfl) (by simp) ?_
                refine AllReadyH.cons rfl (fun K hK => ?_) AllReadyH.nil
                refine step_append_lies _ rfl (.tmp 52) (.tmp 56) 68 rfl L.F 4 i0 _ 1 1 Try.underlying68 HI.out.1 HI.out.2.1 HI.out.2.2.1 HI.out.2.2.2 rfl (by omega) (.slice A1 0 c1) 0 (falses 0) rfl ((owns_on HR2.out gm).alloc _) ⟨w2.heap.size, 0, none⟩ 1 1 [.bool false] rfl rfl (World.news_of_block (heap_alloc_new w2 _)) (by simp [Value.oneCell']) (by omega) (by simp [maxLen]) (by omega) (by have := HV3.out.zF; have := gm.size; simp; omega) _ rfl ?_
                intro g cap w4 hown hgrow hat hlt
                have gm4 : Below L.F w2 w4 := (Below.mono (B := w2.heap.size) (Joins.below_alloc1 _ _) (by have := HV3.out.zF; have := gm.size; omega)).grown hgrow (by have := HV3.out.zF; have := gm.size; simp; omega) (fun k hk => (HR2.out.lt k hk).1)
                have ms2 := ((hgrow.cell_far ⟨L.S, 2, none⟩ (by simp; omega) (fun e => by have h := (HR2.out.lt _ e.symm).1; have h2 := HV3.out.n.S2; simp at h; omega)).trans ((Joins.below_alloc1 w2 _).cell (p := ⟨L.S, 2, none⟩) kzS)).trans ks2
                have mrr := ((hgrow.cell_far ⟨L.cl, 1, none⟩ (by simp; omega) (fun e => by have h := (HR2.out.lt _ e.symm).1; have h2 := HV3.out.n.c2; simp at h; omega)).trans ((Joins.below_alloc1 w2 _).cell (p := ⟨L.cl, 1, none⟩) kzc)).trans krr
                have mt0 := ((hgrow.cell_far ⟨t9, 0, none⟩ (by simp; omega) (fun e => HNB.out e.symm)).trans ((Joins.below_alloc1 w2 _).cell (p := ⟨t9, 0, none⟩) kzt)).trans kt0
                have mt1 := ((hgrow.cell_far ⟨t9, 1, none⟩ (by simp; omega) (fun e => HNB.out e.symm)).trans ((Joins.below_alloc1 w2 _).cell (p := ⟨t9, 1, none⟩) kzt)).trans kt1
                have mt2 := ((hgrow.cell_far ⟨t9, 2, none⟩ (by simp; omega) (fun e => HNB.out e.symm)).trans ((Joins.below_alloc1 w2 _).cell (p := ⟨t9, 2, none⟩) kzt)).trans kt2
                have mt3 := ((hgrow.cell_far ⟨t9, 3, none⟩ (by simp; omega) (fun e => HNB.out e.symm)).trans ((Joins.below_alloc1 w2 _).cell (p := ⟨t9, 3, none⟩) kzt)).trans kt3
                have mu0 := ((hgrow.cell_far ⟨u9, 0, none⟩ (by simp; omega) (fun e => by have h := HGU.out _ e.symm; simp at h)).trans ((Joins.below_alloc1 w2 _).cell (p := ⟨u9, 0, none⟩) kzu)).trans ku0
                have mu1 := ((hgrow.cell_far ⟨u9, 1, none⟩ (by simp; omega) (fun e => by have h := HGU.out _ e.symm; simp at h)).trans ((Joins.below_alloc1 w2 _).cell (p := ⟨u9, 1, none⟩) kzu)).trans ku1
                have mu2 := ((hgrow.cell_far ⟨u9, 2, none⟩ (by simp; omega) (fun e => by have h := HGU.out _ e.symm; simp at h)).trans ((Joins.below_alloc1 w2 _).cell (p := ⟨u9, 2, none⟩) kzu)).trans ku2
                have mu3 := ((hgrow.cell_far ⟨u9, 3, none⟩ (by simp; omega) (fun e => by have h := HGU.out _ e.symm; simp at h)).trans ((Joins.below_alloc1 w2 _).cell (p := ⟨u9, 3, none⟩) kzu)).trans ku3
                have mfc := ((hgrow.frozen_far ⟨L.cl, 1, none⟩ (by simp; omega) (fun e => by have h := (HR2.out.lt _ e.symm).1; have h2 := HV3.out.n.c2; simp at h; omega)).trans ((Joins.below_alloc1 w2 _).frozen (p := ⟨L.cl, 1, none⟩) kzc)).trans ((gm.frozen (p := ⟨L.cl, 1, none⟩) zc).trans (HV3.out.fc 1))
                have mzS := Nat.lt_of_lt_of_le kzS gm4.size
                have mzc := Nat.lt_of_lt_of_le kzc gm4.size
                have mzt := Nat.lt_of_lt_of_le kzt gm4.size
                have mzu := Nat.lt_of_lt_of_le kzu gm4.size
                refine hK.out _ _ ?_ (fun hHeld => ?_)
                · (try dsimp only); exact ⟨ms2, mt0, mt1, mt2, mt3, mu0, mu1, mu2, mu3⟩
                clear hK K
                (try simp only [Act.put, List.setIfInBounds_toArray])
                refine wpAnyH_ready (rs := [13]) (by kernel_rfl) (by simp) ?_
                refine AllReadyH.cons rfl (fun K hK => ?_) AllReadyH.nil
                go_simp
                refine hK.out _ _ ?_ (fun hHeld => ?_)
                · (try dsimp only); exact ⟨ms2, mt0, mt1, mt2, mt3, mu0, mu1, mu2, mu3⟩
                clear hK K
                (try simp only [Act.put, List.setIfInBounds_toArray, List.set_cons_zero, List.set_cons_succ])
                refine wpAnyH_ready (rs := [14]) (by kernel_rfl) (by simp) ?_
                refine AllReadyH.cons rfl (fun K hK => ?_) AllReadyH.nil
                go_simp
                refine hK.out _ _ ?_ (fun hHeld => ?_)
                · (try dsimp only); simp [go_sem, ms2, mt0, mt1, mt2, mt3, mu0, mu1, mu2, mu3]
                clear hK K
                (try simp only [Act.put, List.setIfInBounds_toArray])
                refine wpAnyH_done (by kernel_rfl) ?_ _
                have hfin := HV3.out.app1 (gm.trans ((Joins.below_alloc1 w2 (.cells #[.bool false] 4)).mono gm.size)) rr hgrow hat hown
                have HFIN := Lib.hid hfin
                have hg9 : g ≠ t9 := fun e => by
                    rcases hat with h | h
                    · exact HNB.out (by rw [h, e])
                    · simp at h; omega
                have HNB2 : Hid (∀ v, (w4.setCell ⟨L.cl, 1, none⟩ (.slice (some ⟨g, 0, none⟩) 1 cap)).cell? ⟨L.cl, 1, none⟩ = some v → v.ownBlock ≠ some t9) := Lib.hid (fun v hv => by
                    rw [cell_set_self, mrr] at hv
                    injection hv with hv
                    rw [← hv]
                    exact fun e => hg9 (by injection e))
                have HT9 := Lib.hid (And.intro ((sp_o (i := 1) hct (.slice (some ⟨g, 0, none⟩) 1 cap)).trans mt0) (And.intro ((sp_o (i := 1) hct (.slice (some ⟨g, 0, none⟩) 1 cap)).trans mt1) (And.intro ((sp_o (i := 1) hct (.slice (some ⟨g, 0, none⟩) 1 cap)).trans mt2) ((sp_o (i := 1) hct (.slice (some ⟨g, 0, none⟩) 1 cap)).trans mt3))))
                clear hfin hg9 hown hgrow hat hlt gm gm4 s2 rr t0 t1 t2 t3 u0 u1 u2 u3 ks2 krr kt0 kt1 kt2 kt3 ku0 ku1 ku2 ku3 ms2 mrr mt0 mt1 mt2 mt3 mu0 mu1 mu2 mu3
                go_wp2
                go_roundw
                case rel => exact ⟨.inr (.inl ⟨by go_num, HFIN.out⟩), HT9.out.1, HT9.out.2.1, HT9.out.2.2.1, HT9.out.2.2.2, by simpa using mzt, HNB2.out⟩
                case measure => simp [intOf]
              · go_simp
                refine hK.out _ _ ?_ (fun hHeld => ?_)
                · (try dsimp only); simp [go_sem, ks2, kt0, kt1, kt2, kt3, ku0, ku1, ku2, ku3, kzS, kzt, kzu]
                clear hK K
                (try simp only [Act.put, List.setIfInBounds_toArray, List.set_cons_zero, List.set_cons_succ])
                refine wpAnyH_ready (rs := [7]) (by kernel_rfl) (by simp) ?_
                refine AllReadyH.cons rfl (fun K hK => ?_) AllReadyH.nil
                go_simp
                refine hK.out _ _ ?_ (fun hHeld => ?_)
                · (try dsimp only); simp [go_sem, ks2, kt0, kt1, kt2, kt3, ku0, ku1, ku2, ku3, kzS, kzt, kzu]
                clear hK K
                (try simp only [Act.put, List.setIfInBounds_toArray, List.set_cons_zero, List.set_cons_succ])
                refine wpAnyH_ready (rs := [12]) (by kernel_rfl) (by simp) ?_
                refine AllReadyH.cons rfl (fun K hK => ?_) AllReadyH.nil
                refine step_append_lies _ rfl (.tmp 52) (.tmp 56) 68 rfl L.F 4 i0 _ 1 1 Try.underlying68 HI.out.1 HI.out.2.1 HI.out.2.2.1 HI.out.2.2.2 rfl (by omega) (.slice A1 0 c1) 0 (falses 0) rfl ((owns_on HR2.out gm).alloc _) ⟨w2.heap.size, 0, none⟩ 1 1 [.bool false] rfl rfl (World.news_of_block (heap_alloc_new w2 _)) (by simp [Value.oneCell']) (by omega) (by simp [maxLen]) (by omega) (by have := HV3.out.zF; have := gm.size; simp; omega) _ rfl ?_
                intro g cap w4 hown hgrow hat hlt
                have gm4 : Below L.F w2 w4 := (Below.mono (B := w2.heap.size) (Joins.below_alloc1 _ _) (by have := HV3.out.zF; have := gm.size; omega)).grown hgrow (by have := HV3.out.zF; have := gm.size; simp; omega) (fun k hk => (HR2.out.lt k hk).1)
                have ms2 := ((hgrow.cell_far ⟨L.S, 2, none⟩ (by simp; omega) (fun e => by have h := (HR2.out.lt _ e.symm).1; have h2 := HV3.out.n.S2; simp at h; omega)).trans ((Joins.below_alloc1 w2 _).cell (p := ⟨L.S, 2, none⟩) kzS)).trans ks2
                have mrr := ((hgrow.cell_far ⟨L.cl, 1, none⟩ (by simp; omega) (fun e => by have h := (HR2.out.lt _ e.symm).1; have h2 := HV3.out.n.c2; simp at h; omega)).trans ((Joins.below_alloc1 w2 _).cell (p := ⟨L.cl, 1, none⟩) kzc)).trans krr
                have mt0 := ((hgrow.cell_far ⟨t9, 0, none⟩ (by simp; omega) (fun e => HNB.out e.symm)).trans ((Joins.below_alloc1 w2 _).cell (p := ⟨t9, 0, none⟩) kzt)).trans kt0
                have mt1 := ((hgrow.cell_far ⟨t9, 1, none⟩ (by simp; omega) (fun e => HNB.out e.symm)).trans ((Joins.below_alloc1 w2 _).cell (p := ⟨t9, 1, none⟩) kzt)).trans kt1
                have mt2 := ((hgrow.cell_far ⟨t9, 2, none⟩ (by simp; omega) (fun e => HNB.out e.symm)).trans ((Joins.below_alloc1 w2 _).cell (p := ⟨t9, 2, none⟩) kzt)).trans kt2
                have mt3 := ((hgrow.cell_far ⟨t9, 3, none⟩ (by simp; omega) (fun e => HNB.out e.symm)).trans ((Joins.below_alloc1 w2 _).cell (p := ⟨t9, 3, none⟩) kzt)).trans kt3
                have mu0 := ((hgrow.cell_far ⟨u9, 0, none⟩ (by simp; omega) (fun e => by have h := HGU.out _ e.symm; simp at h)).trans ((Joins.below_alloc1 w2 _).cell (p := ⟨u9, 0, none⟩) kzu)).trans ku0
                have mu1 := ((hgrow.cell_far ⟨u9, 1, none⟩ (by simp; omega) (fun e => by have h := HGU.out _ e.symm; simp at h)).trans ((Joins.below_alloc1 w2 _).cell (p := ⟨u9, 1, none⟩) kzu)).trans ku1
                have mu2 := ((hgrow.cell_far ⟨u9, 2, none⟩ (by simp; omega) (fun e => by have h := HGU.out _ e.symm; simp at h)).trans ((Joins.below_alloc1 w2 _).cell (p := ⟨u9, 2, none⟩) kzu)).trans ku2
                have mu3 := ((hgrow.cell_far ⟨u9, 3, none⟩ (by simp; omega) (fun e => by have h := HGU.out _ e.symm; simp at h)).trans ((Joins.below_alloc1 w2 _).cell (p := ⟨u9, 3, none⟩) kzu)).trans ku3
                have mfc := ((hgrow.frozen_far ⟨L.cl, 1, none⟩ (by simp; omega) (fun e => by have h := (HR2.out.lt _ e.symm).1; have h2 := HV3.out.n.c2; simp at h; omega)).trans ((Joins.below_alloc1 w2 _).frozen (p := ⟨L.cl, 1, none⟩) kzc)).trans ((gm.frozen (p := ⟨L.cl, 1, none⟩) zc).trans (HV3.out.fc 1))
                have mzS := Nat.lt_of_lt_of_le kzS gm4.size
                have mzc := Nat.lt_of_lt_of_le kzc gm4.size
                have mzt := Nat.lt_of_lt_of_le kzt gm4.size
                have mzu := Nat.lt_of_lt_of_le kzu gm4.size
                refine hK.out _ _ ?_ (fun hHeld => ?_)
                · (try dsimp only); exact ⟨ms2, mt0, mt1, mt2, mt3, mu0, mu1, mu2, mu3⟩
                clear hK K
                (try simp only [Act.put, List.setIfInBounds_toArray])
                refine wpAnyH_ready (rs := [13]) (by kernel_rfl) (by simp) ?_
                refine AllReadyH.cons rfl (fun K hK => ?_) AllReadyH.nil
                go_simp
                refine hK.out _ _ ?_ (fun hHeld => ?_)
                · (try dsimp only); exact ⟨ms2, mt0, mt1, mt2, mt3, mu0, mu1, mu2, mu3⟩
                clear hK K
                (try simp only [Act.put, List.setIfInBounds_toArray, List.set_cons_zero, List.set_cons_succ])
                refine wpAnyH_ready (rs := [14]) (by kernel_rfl) (by simp) ?_
                refine AllReadyH.cons rfl (fun K hK => ?_) AllReadyH.nil
                go_simp
                refine hK.out _ _ ?_ (fun hHeld => ?_)
                · (try dsimp only); simp [go_sem, ms2, mt0, mt1, mt2, mt3, mu0, mu1, mu2, mu3]
                clear hK K
                (try simp only [Act.put, List.setIfInBounds_toArray])
                refine wpAnyH_done (by kernel_rfl) ?_ _
                have hfin := HV3.out.app1 (gm.trans ((Joins.below_alloc1 w2 (.cells #[.bool false] 4)).mono gm.size)) rr hgrow hat hown
                have HFIN := Lib.hid hfin
                have hg9 : g ≠ t9 := fun e => by
                    rcases hat with h | h
                    · exact HNB.out (by rw [h, e])
                    · simp at h; omega
                have HNB2 : Hid (∀ v, (w4.setCell ⟨L.cl, 1, none⟩ (.slice (some ⟨g, 0, none⟩) 1 cap)).cell? ⟨L.cl, 1, none⟩ = some v → v.ownBlock ≠ some t9) := Lib.hid (fun v hv => by
                    rw [cell_set_self, mrr] at hv
                    injection hv with hv
                    rw [← hv]
                    exact fun e => hg9 (by injection e))
                have HT9 := Lib.hid (And.intro ((sp_o (i := 1) hct (.slice (some ⟨g, 0, none⟩) 1 cap)).trans mt0) (And.intro ((sp_o (i := 1) hct (.slice (some ⟨g, 0, none⟩) 1 cap)).trans mt1) (And.intro ((sp_o (i := 1) hct (.slice (some ⟨g, 0, none⟩) 1 cap)).trans mt2) ((sp_o (i := 1) hct (.slice (some ⟨g, 0, none⟩) 1 cap)).trans mt3))))
                clear hfin hg9 hown hgrow hat hlt gm gm4 s2 rr t0 t1 t2 t3 u0 u1 u2 u3 ks2 krr kt0 kt1 kt2 kt3 ku0 ku1 ku2 ku3 ms2 mrr mt0 mt1 mt2 mt3 mu0 mu1 mu2 mu3
                go_wp2
                go_roundw
                case rel => exact ⟨.inr (.inl ⟨by go_num, HFIN.out⟩), HT9.out.1, HT9.out.2.1, HT9.out.2.2.1, HT9.out.2.2.2, by simpa using mzt, HNB2.out⟩
                case measure => simp [intOf]

          · have hn := HV3.out.n
            obtain ⟨A0, c0, A1, c1, r1, r2, r3, r4, r5, r6, r7⟩ := HV3.out.r
            have HR2 := Lib.hid r4
            have hW := HV3.out.on (Joins.below_alloc1 wr (.cells #[.int .i64 2, .int .i64 20, .bool false, .slice none 0 0] 64))
            have HVW := Lib.hid hW
            have s2 := HV3.out.s2
            have rr := r3
            have zS : L.S < wr.heap.size := Nat.lt_of_lt_of_le hn.S2 HV3.out.zF
            have zc : L.cl < wr.heap.size := Nat.lt_of_lt_of_le hn.c2 HV3.out.zF
            have HOW := Lib.hid (owns_on r4 (Joins.below_alloc1 wr (.cells #[.int .i64 2, .int .i64 20, .bool false, .slice none 0 0] 64)))
            have zF := HV3.out.zF
            have HNB := Lib.hid (hnb _ rr)
            have hSc : L.cl ≠ L.S := hn.Sc.symm
            have hct : L.cl ≠ t9 := by have := hn.c2; omega
            have hcu : L.cl ≠ wr.heap.size := by have := hn.c2; have := HV3.out.zF; omega
            have HGU : Hid (∀ k, Value.ownBlock (.slice A1 1 c1) = some k → k < wr.heap.size) := Lib.hid (fun k hk => (r4.lt k hk).2)
            have HFC : Hid (∀ k, wr.frozen? ⟨L.cl, k, none⟩ = false) := Lib.hid HV3.out.fc
            clear r2 r4 r5 r6 r7 hn r1 r3 hW hnb
            go_upto_region 11 with fail
            have u0 : (wr.alloc (.cells #[.int .i64 2, .int .i64 20, .bool false, .slice none 0 0] 64)).cell? ⟨wr.heap.size, 0, none⟩ = some (.int .i64 2) := by simp [go_sem]
            have u1 : (wr.alloc (.cells #[.int .i64 2, .int .i64 20, .bool false, .slice none 0 0] 64)).cell? ⟨wr.heap.size, 1, none⟩ = some (.int .i64 20) := by simp [go_sem]
            have u2 : (wr.alloc (.cells #[.int .i64 2, .int .i64 20, .bool false, .slice none 0 0] 64)).cell? ⟨wr.heap.size, 2, none⟩ = some (.bool false) := by simp [go_sem]
            have u3 : (wr.alloc (.cells #[.int .i64 2, .int .i64 20, .bool false, .slice none 0 0] 64)).cell? ⟨wr.heap.size, 3, none⟩ = some (.slice none 0 0) := by simp [go_sem]
            have hbx := Joins.below_alloc1 wr (.cells #[.int .i64 2, .int .i64 20, .bool false, .slice none 0 0] 64)
            replace s2 := (hbx.cell (p := ⟨L.S, 2, none⟩) zS).trans s2
            replace rr := (hbx.cell (p := ⟨L.cl, 1, none⟩) zc).trans rr
            replace t0 := (hbx.cell (p := ⟨t9, 0, none⟩) zt).trans t0
            replace t1 := (hbx.cell (p := ⟨t9, 1, none⟩) zt).trans t1
            replace t2 := (hbx.cell (p := ⟨t9, 2, none⟩) zt).trans t2
            replace t3 := (hbx.cell (p := ⟨t9, 3, none⟩) zt).trans t3
            have zu : wr.heap.size < (wr.alloc (.cells #[.int .i64 2, .int .i64 20, .bool false, .slice none 0 0] 64)).heap.size := by simp
            replace zS := Nat.lt_of_lt_of_le zS hbx.size
            replace zc := Nat.lt_of_lt_of_le zc hbx.size
            replace zt := Nat.lt_of_lt_of_le zt hbx.size
            have hu9 : L.F ≤ wr.heap.size := zF
            clear hbx a0 a1 a2 a3 b0 b1 b2 b3 zb zF HV3
            have HV3 := HVW
            clear HVW HR2
            have HR2 := HOW
            clear HOW
            generalize wr.heap.size = u9 at *
            generalize wr.alloc (.cells #[.int .i64 2, .int .i64 20, .bool false, .slice none 0 0] 64) = W at *
            refine wp_region_held_drew (S := fun w' => w'.cell? ⟨L.S, 2, none⟩ = some (.slice (some ⟨L.cl, 0, none⟩) 2 2) ∧ w'.cell? ⟨t9, 0, none⟩ = some (.int .i64 2) ∧ w'.cell? ⟨t9, 1, none⟩ = some (.int .i64 20) ∧ w'.cell? ⟨t9, 2, none⟩ = some (.bool false) ∧ w'.cell? ⟨t9, 3, none⟩ = some (.slice none 0 0) ∧ w'.cell? ⟨u9, 0, none⟩ = some (.int .i64 2) ∧ w'.cell? ⟨u9, 1, none⟩ = some (.int .i64 20) ∧ w'.cell? ⟨u9, 2, none⟩ = some (.bool false) ∧ w'.cell? ⟨u9, 3, none⟩ = some (.slice none 0 0)) (by kernel_rfl) ?_ (fun hHeld => ?_)
            · (try dsimp only); exact ⟨s2, t0, t1, t2, t3, u0, u1, u2, u3⟩
            refine wpAnyH_take (i := 0) (oi := ?oi11_0) (v := ?v11_0) ?hi11_0 ?ha11_0 ?hb11_0 ?hc11_0 ?hq11_0 (Or.inl ⟨?hw11_0, ?hy11_0⟩) (by assumption) ?rest11_0
            case hi11_0 => simp only [List.getElem?_toArray, List.getElem?_cons_zero]; rfl
            case ha11_0 => kernel_rfl
            case hb11_0 => kernel_rfl
            case hc11_0 => kernel_rfl
            case hq11_0 => exact fun _ _ _ h => h
            case hw11_0 => kernel_rfl
            case hy11_0 => intro w hSw; (try dsimp only at hSw); go_simp; (try with_reducible rfl)
            (try simp only [Act.put, List.setIfInBounds_toArray, List.set_cons_zero, List.set_cons_succ])
            refine wpAnyH_take (i := 1) (oi := ?oi11_1) (v := ?v11_1) ?hi11_1 ?ha11_1 ?hb11_1 ?hc11_1 ?hq11_1 (Or.inl ⟨?hw11_1, ?hy11_1⟩) (by assumption) ?rest11_1
            case hi11_1 => simp only [List.getElem?_toArray, List.getElem?_cons_succ, List.getElem?_cons_zero]; rfl
            case ha11_1 => kernel_rfl
            case hb11_1 => kernel_rfl
            case hc11_1 => kernel_rfl
            case hq11_1 => exact fun _ _ _ h => h
            case hw11_1 => kernel_rfl
            case hy11_1 => intro w hSw; (try dsimp only at hSw); go_simp; (try with_reducible rfl)
            (try simp only [Act.put, List.setIfInBounds_toArray, List.set_cons_zero, List.set_cons_succ])
            refine wpAnyH_take (i := 2) (oi := ?oi11_2) (v := ?v11_2) ?hi11_2 ?ha11_2 ?hb11_2 ?hc11_2 ?hq11_2 (Or.inl ⟨?hw11_2, ?hy11_2⟩) (by assumption) ?rest11_2
            case hi11_2 => simp only [List.getElem?_toArray, List.getElem?_cons_succ, List.getElem?_cons_zero]; rfl
            case ha11_2 => kernel_rfl
            case hb11_2 => kernel_rfl
            case hc11_2 => kernel_rfl
            case hq11_2 => exact fun _ _ _ h => h
            case hw11_2 => kernel_rfl
            case hy11_2 => intro w hSw; (try dsimp only at hSw); go_simp; (try with_reducible rfl)
            (try simp only [Act.put, List.setIfInBounds_toArray, List.set_cons_zero, List.set_cons_succ])
            refine wpAnyH_take (i := 3) (oi := ?oi11_3) (v := ?v11_3) ?hi11_3 ?ha11_3 ?hb11_3 ?hc11_3 ?hq11_3 (Or.inl ⟨?hw11_3, ?hy11_3⟩) (by assumption) ?rest11_3
            case hi11_3 => simp only [List.getElem?_toArray, List.getElem?_cons_succ, List.getElem?_cons_zero]; rfl
            case ha11_3 => kernel_rfl
            case hb11_3 => kernel_rfl
            case hc11_3 => kernel_rfl
            case hq11_3 => exact fun _ _ _ h => h
            case hw11_3 => kernel_rfl
            case hy11_3 => intro w hSw; (try dsimp only at hSw); go_simp; (try with_reducible rfl)
            (try simp only [Act.put, List.setIfInBounds_toArray, List.set_cons_zero, List.set_cons_succ])
            refine wpAnyH_take (i := 4) (oi := ?oi11_4) (v := ?v11_4) ?hi11_4 ?ha11_4 ?hb11_4 ?hc11_4 ?hq11_4 (Or.inl ⟨?hw11_4, ?hy11_4⟩) (by assumption) ?rest11_4
            case hi11_4 => simp only [List.getElem?_toArray, List.getElem?_cons_succ, List.getElem?_cons_zero]; rfl
            case ha11_4 => kernel_rfl
            case hb11_4 => kernel_rfl
            case hc11_4 => kernel_rfl
            case hq11_4 => exact fun _ _ _ h => h
            case hw11_4 => kernel_rfl
            case hy11_4 => intro w hSw; (try dsimp only at hSw); go_simp; (try with_reducible rfl)
            (try simp only [Act.put, List.setIfInBounds_toArray, List.set_cons_zero, List.set_cons_succ])
            refine wpAnyH_take (i := 5) (oi := ?oi11_5) (v := ?v11_5) ?hi11_5 ?ha11_5 ?hb11_5 ?hc11_5 ?hq11_5 (Or.inl ⟨?hw11_5, ?hy11_5⟩) (by assumption) ?rest11_5
            case hi11_5 => simp only [List.getElem?_toArray, List.getElem?_cons_succ, List.getElem?_cons_zero]; rfl
            case ha11_5 => kernel_rfl
            case hb11_5 => kernel_rfl
            case hc11_5 => kernel_rfl
            case hq11_5 => exact fun _ _ _ h => h
            case hw11_5 => kernel_rfl
            case hy11_5 => intro w hSw; (try dsimp only at hSw); go_simp; (try with_reducible rfl)
            (try simp only [Act.put, List.setIfInBounds_toArray, List.set_cons_zero, List.set_cons_succ])
            refine wpAnyH_take (i := 6) (oi := ?oi11_6) (v := ?v11_6) ?hi11_6 ?ha11_6 ?hb11_6 ?hc11_6 ?hq11_6 (Or.inl ⟨?hw11_6, ?hy11_6⟩) (by assumption) ?rest11_6
            case hi11_6 => simp only [List.getElem?_toArray, List.getElem?_cons_succ, List.getElem?_cons_zero]; rfl
            case ha11_6 => kernel_rfl
            case hb11_6 => kernel_rfl
            case hc11_6 => kernel_rfl
            case hq11_6 => exact fun _ _ _ h => h
            case hw11_6 => kernel_rfl
            case hy11_6 => intro w hSw; (try dsimp only at hSw); go_simp; (try with_reducible rfl)
            (try simp only [Act.put, List.setIfInBounds_toArray, List.set_cons_zero, List.set_cons_succ])
            refine wpAnyH_take (i := 8) (oi := ?oi11_8) (v := ?v11_8) ?hi11_8 ?ha11_8 ?hb11_8 ?hc11_8 ?hq11_8 (Or.inl ⟨?hw11_8, ?hy11_8⟩) (by assumption) ?rest11_8
            case hi11_8 => simp only [List.getElem?_toArray, List.getElem?_cons_succ, List.getElem?_cons_zero]; rfl
            case ha11_8 => kernel_rfl
            case hb11_8 => kernel_rfl
            case hc11_8 => kernel_rfl
            case hq11_8 => exact fun _ _ _ h => h
            case hw11_8 => kernel_rfl
            case hy11_8 => intro w hSw; (try dsimp only at hSw); go_simp; (try with_reducible rfl)
            (try simp only [Act.put, List.setIfInBounds_toArray, List.set_cons_zero, List.set_cons_succ])
            refine wpAnyH_take (i := 9) (oi := ?oi11_9) (v := ?v11_9) ?hi11_9 ?ha11_9 ?hb11_9 ?hc11_9 ?hq11_9 (Or.inl ⟨?hw11_9, ?hy11_9⟩) (by assumption) ?rest11_9
            case hi11_9 => simp only [List.getElem?_toArray, List.getElem?_cons_succ, List.getElem?_cons_zero]; rfl
            case ha11_9 => kernel_rfl
            case hb11_9 => kernel_rfl
            case hc11_9 => kernel_rfl
            case hq11_9 => exact fun _ _ _ h => h
            case hw11_9 => kernel_rfl
            case hy11_9 => intro w hSw; (try dsimp only at hSw); go_simp; (try with_reducible rfl)
            (try simp only [Act.put, List.setIfInBounds_toArray, List.set_cons_zero, List.set_cons_succ])
            refine wpAnyH_ready (rs := [7, 10]) (by kernel_rfl) (by simp) ?_
            refine AllReadyH.cons rfl (fun K hK => ?_) (AllReadyH.cons rfl (fun K hK => ?_) AllReadyH.nil)
            · go_simp
              refine hK.out _ _ ?_ (fun hHeld => ?_)
              · (try dsimp only); exact ⟨s2, t0, t1, t2, t3, u0, u1, u2, u3⟩
              clear hK K
              (try simp only [Act.put, List.setIfInBounds_toArray, List.set_cons_zero, List.set_cons_succ])
              refine wpAnyH_ready (rs := [10]) (by kernel_rfl) (by simp) ?_
              refine AllReadyH.cons rfl (fun K hK => ?_) AllReadyH.nil
              go_simp
              (go_at_call 48; refine (clash_any 2 20 2 20 _).mono ?_)
              rintro e w2 ⟨rfl, hb2⟩
              have gm : Below W.heap.size W w2 := thru (below_drew (Below.refl _ _)) hb2 (by simp)
              have ks2 := (gm.cell (p := ⟨L.S, 2, none⟩) zS).trans s2
              have krr := (gm.cell (p := ⟨L.cl, 1, none⟩) zc).trans rr
              have kt0 := (gm.cell (p := ⟨t9, 0, none⟩) zt).trans t0
              have kt1 := (gm.cell (p := ⟨t9, 1, none⟩) zt).trans t1
              have kt2 := (gm.cell (p := ⟨t9, 2, none⟩) zt).trans t2
              have kt3 := (gm.cell (p := ⟨t9, 3, none⟩) zt).trans t3
              have ku0 := (gm.cell (p := ⟨u9, 0, none⟩) zu).trans u0
              have ku1 := (gm.cell (p := ⟨u9, 1, none⟩) zu).trans u1
              have ku2 := (gm.cell (p := ⟨u9, 2, none⟩) zu).trans u2
              have ku3 := (gm.cell (p := ⟨u9, 3, none⟩) zu).trans u3
              have kzS := Nat.lt_of_lt_of_le zS gm.size
              have kzc := Nat.lt_of_lt_of_le zc gm.size
              have kzt := Nat.lt_of_lt_of_le zt gm.size
              have kzu := Nat.lt_of_lt_of_le zu gm.size
              clear hb2
              go_wp2_with fail
              refine hK.out _ _ ?_ (fun hHeld => ?_)
              · (try dsimp only); exact ⟨ks2, kt0, kt1, kt2, kt3, ku0, ku1, ku2, ku3⟩
              clear hK K
              (try simp only [Act.put, List.setIfInBounds_toArray, List.set_cons_zero, List.set_cons_succ])
              refine wpAnyH_ready (rs := [11]) (by kernel_rfl) (by simp) ?_
              refine AllReadyH.cons rfl (fun K hK => ?_) AllReadyH.nil
              go_simp
              refine hK.out _ _ ?_ (fun hHeld => ?_)
              · (try dsimp only); simp [go_sem, ks2, kt0, kt1, kt2, kt3, ku0, ku1, ku2, ku3, kzS, kzt, kzu]
              clear hK K
              (try simp only [Act.put, List.setIfInBounds_toArray, List.set_cons_zero, List.set_cons_succ])
              refine wpAnyH_ready (rs := [12]) (by kernel_rfl) (by simp) ?_
              refine AllReadyH.cons rfl (fun K hK => ?_) AllReadyH.nil
              refine step_append_lies _ rfl (.tmp 52) (.tmp 56) 68 rfl L.F 4 i0 _ 1 1 Try.underlying68 HI.out.1 HI.out.2.1 HI.out.2.2.1 HI.out.2.2.2 rfl (by omega) (.slice A1 1 c1) 1 (falses 1) rfl ((owns_on HR2.out gm).alloc _) ⟨w2.heap.size, 0, none⟩ 1 1 [.bool false] rfl rfl (World.news_of_block (heap_alloc_new w2 _)) (by simp [Value.oneCell']) (by omega) (by simp [maxLen]) (by omega) (by have := HV3.out.zF; have := gm.size; simp; omega) _ rfl ?_
              intro g cap w4 hown hgrow hat hlt
              have gm4 : Below L.F w2 w4 := (Below.mono (B := w2.heap.size) (Joins.below_alloc1 _ _) (by have := HV3.out.zF; have := gm.size; omega)).grown hgrow (by have := HV3.out.zF; have := gm.size; simp; omega) (fun k hk => (HR2.out.lt k hk).1)
              have ms2 := ((hgrow.cell_far ⟨L.S, 2, none⟩ (by simp; omega) (fun e => by have h := (HR2.out.lt _ e.symm).1; have h2 := HV3.out.n.S2; simp at h; omega)).trans ((Joins.below_alloc1 w2 _).cell (p := ⟨L.S, 2, none⟩) kzS)).trans ks2
              have mrr := ((hgrow.cell_far ⟨L.cl, 1, none⟩ (by simp; omega) (fun e => by have h := (HR2.out.lt _ e.symm).1; have h2 := HV3.out.n.c2; simp at h; omega)).trans ((Joins.below_alloc1 w2 _).cell (p := ⟨L.cl, 1, none⟩) kzc)).trans krr
              have mt0 := ((hgrow.cell_far ⟨t9, 0, none⟩ (by simp; omega) (fun e => HNB.out e.symm)).trans ((Joins.below_alloc1 w2 _).cell (p := ⟨t9, 0, none⟩) kzt)).trans kt0
              have mt1 := ((hgrow.cell_far ⟨t9, 1, none⟩ (by simp; omega) (fun e => HNB.out e.symm)).trans ((Joins.below_alloc1 w2 _).cell (p := ⟨t9, 1, none⟩) kzt)).trans kt1
              have mt2 := ((hgrow.cell_far ⟨t9, 2, none⟩ (by simp; omega) (fun e => HNB.out e.symm)).trans ((Joins.below_alloc1 w2 _).cell (p := ⟨t9, 2, none⟩) kzt)).trans kt2
              have mt3 := ((hgrow.cell_far ⟨t9, 3, none⟩ (by simp; omega) (fun e => HNB.out e.symm)).trans ((Joins.below_alloc1 w2 _).cell (p := ⟨t9, 3, none⟩) kzt)).trans kt3
              have mu0 := ((hgrow.cell_far ⟨u9, 0, none⟩ (by simp; omega) (fun e => by have h := HGU.out _ e.symm; simp at h)).trans ((Joins.below_alloc1 w2 _).cell (p := ⟨u9, 0, none⟩) kzu)).trans ku0
              have mu1 := ((hgrow.cell_far ⟨u9, 1, none⟩ (by simp; omega) (fun e => by have h := HGU.out _ e.symm; simp at h)).trans ((Joins.below_alloc1 w2 _).cell (p := ⟨u9, 1, none⟩) kzu)).trans ku1
              have mu2 := ((hgrow.cell_far ⟨u9, 2, none⟩ (by simp; omega) (fun e => by have h := HGU.out _ e.symm; simp at h)).trans ((Joins.below_alloc1 w2 _).cell (p := ⟨u9, 2, none⟩) kzu)).trans ku2
              have mu3 := ((hgrow.cell_far ⟨u9, 3, none⟩ (by simp; omega) (fun e => by have h := HGU.out _ e.symm; simp at h)).trans ((Joins.below_alloc1 w2 _).cell (p := ⟨u9, 3, none⟩) kzu)).trans ku3
              have mfc := ((hgrow.frozen_far ⟨L.cl, 1, none⟩ (by simp; omega) (fun e => by have h := (HR2.out.lt _ e.symm).1; have h2 := HV3.out.n.c2; simp at h; omega)).trans ((Joins.below_alloc1 w2 _).frozen (p := ⟨L.cl, 1, none⟩) kzc)).trans ((gm.frozen (p := ⟨L.cl, 1, none⟩) zc).trans (HV3.out.fc 1))
              have mzS := Nat.lt_of_lt_of_le kzS gm4.size
              have mzc := Nat.lt_of_lt_of_le kzc gm4.size
              have mzt := Nat.lt_of_lt_of_le kzt gm4.size
              have mzu := Nat.lt_of_lt_of_le kzu gm4.size
              refine hK.out _ _ ?_ (fun hHeld => ?_)
              · (try dsimp only); exact ⟨ms2, mt0, mt1, mt2, mt3, mu0, mu1, mu2, mu3⟩
              clear hK K
              (try simp only [Act.put, List.setIfInBounds_toArray])
              refine wpAnyH_ready (rs := [13]) (by kernel_rfl) (by simp) ?_
              refine AllReadyH.cons rfl (fun K hK => ?_) AllReadyH.nil
              go_simp
              refine hK.out _ _ ?_ (fun hHeld => ?_)
              · (try dsimp only); exact ⟨ms2, mt0, mt1, mt2, mt3, mu0, mu1, mu2, mu3⟩
              clear hK K
              (try simp only [Act.put, List.setIfInBounds_toArray, List.set_cons_zero, List.set_cons_succ])
              refine wpAnyH_ready (rs := [14]) (by kernel_rfl) (by simp) ?_
              refine AllReadyH.cons rfl (fun K hK => ?_) AllReadyH.nil
              go_simp
              refine hK.out _ _ ?_ (fun hHeld => ?_)
              · (try dsimp only); simp [go_sem, ms2, mt0, mt1, mt2, mt3, mu0, mu1, mu2, mu3]
              clear hK K
              (try simp only [Act.put, List.setIfInBounds_toArray])
              refine wpAnyH_done (by kernel_rfl) ?_ _
              have hfin := HV3.out.app1 (gm.trans ((Joins.below_alloc1 w2 (.cells #[.bool false] 4)).mono gm.size)) rr hgrow hat hown
              have HFIN := Lib.hid hfin
              have hg9 : g ≠ t9 := fun e => by
                  rcases hat with h | h
                  · exact HNB.out (by rw [h, e])
                  · simp at h; omega
              have HNB2 : Hid (∀ v, (w4.setCell ⟨L.cl, 1, none⟩ (.slice (some ⟨g, 0, none⟩) 2 cap)).cell? ⟨L.cl, 1, none⟩ = some v → v.ownBlock ≠ some t9) := Lib.hid (fun v hv => by
                  rw [cell_set_self, mrr] at hv
                  injection hv with hv
                  rw [← hv]
                  exact fun e => hg9 (by injection e))
              have HT9 := Lib.hid (And.intro ((sp_o (i := 1) hct (.slice (some ⟨g, 0, none⟩) 2 cap)).trans mt0) (And.intro ((sp_o (i := 1) hct (.slice (some ⟨g, 0, none⟩) 2 cap)).trans mt1) (And.intro ((sp_o (i := 1) hct (.slice (some ⟨g, 0, none⟩) 2 cap)).trans mt2) ((sp_o (i := 1) hct (.slice (some ⟨g, 0, none⟩) 2 cap)).trans mt3))))
              clear hfin hg9 hown hgrow hat hlt gm gm4 s2 rr t0 t1 t2 t3 u0 u1 u2 u3 ks2 krr kt0 kt1 kt2 kt3 ku0 ku1 ku2 ku3 ms2 mrr mt0 mt1 mt2 mt3 mu0 mu1 mu2 mu3
              go_wp2
              go_roundw
              case rel => exact ⟨.inr (.inr ⟨by go_num, HFIN.out⟩), HT9.out.1, HT9.out.2.1, HT9.out.2.2.1, HT9.out.2.2.2, by simpa using mzt, HNB2.out⟩
              case measure => simp [intOf]
            · go_simp
              (go_at_call 48; refine (clash_any 2 20 2 20 _).mono ?_)
              rintro e w2 ⟨rfl, hb2⟩
              have gm : Below W.heap.size W w2 := thru (below_drew (Below.refl _ _)) hb2 (by simp)
              have ks2 := (gm.cell (p := ⟨L.S, 2, none⟩) zS).trans s2
              have krr := (gm.cell (p := ⟨L.cl, 1, none⟩) zc).trans rr
              have kt0 := (gm.cell (p := ⟨t9, 0, none⟩) zt).trans t0
              have kt1 := (gm.cell (p := ⟨t9, 1, none⟩) zt).trans t1
              have kt2 := (gm.cell (p := ⟨t9, 2, none⟩) zt).trans t2
              have kt3 := (gm.cell (p := ⟨t9, 3, none⟩) zt).trans t3
              have ku0 := (gm.cell (p := ⟨u9, 0, none⟩) zu).trans u0
              have ku1 := (gm.cell (p := ⟨u9, 1, none⟩) zu).trans u1
              have ku2 := (gm.cell (p := ⟨u9, 2, none⟩) zu).trans u2
              have ku3 := (gm.cell (p := ⟨u9, 3, none⟩) zu).trans u3
              have kzS := Nat.lt_of_lt_of_le zS gm.size
              have kzc := Nat.lt_of_lt_of_le zc gm.size
              have kzt := Nat.lt_of_lt_of_le zt gm.size
              have kzu := Nat.lt_of_lt_of_le zu gm.size
              clear hb2
              go_wp2_with fail
              refine hK.out _ _ ?_ (fun hHeld => ?_)
              · (try dsimp only); exact ⟨ks2, kt0, kt1, kt2, kt3, ku0, ku1, ku2, ku3⟩
              clear hK K
              (try simp only [Act.put, List.setIfInBounds_toArray, List.set_cons_zero, List.set_cons_succ])
              refine wpAnyH_ready (rs := [7, 11]) (by kernel_rfl) (by simp) ?_
              refine AllReadyH.cons rfl (fun K hK => ?_) (AllReadyH.cons rfl (fun K hK => ?_) AllReadyH.nil)
              · go_simp
                refine hK.out _ _ ?_ (fun hHeld => ?_)
                · (try dsimp only); exact ⟨ks2, kt0, kt1, kt2, kt3, ku0, ku1, ku2, ku3⟩
                clear hK K
                (try simp only [Act.put, List.setIfInBounds_toArray, List.set_cons_zero, List.set_cons_succ])
                refine wpAnyH_ready (rs := [11]) (by kernel_rfl) (by simp) ?_
                refine AllReadyH.cons rfl (fun K hK => ?_) AllReadyH.nil
                go_simp
                refine hK.out _ _ ?_ (fun hHeld => ?_)
                · (try dsimp only); simp [go_sem, ks2, kt0, kt1, kt2, kt3, ku0, ku1, ku2, ku3, kzS, kzt, kzu]
                clear hK K
                (try simp only [Act.put, List.setIfInBounds_toArray, List.set_cons_zero, List.set_cons_succ])
                refine wpAnyH_ready (rs := [12]) (by kernel_rfl) (by simp) ?_
                refine AllReadyH.cons rfl (fun K hK => ?_) AllReadyH.nil
                refine step_append_lies _ rfl (.tmp 52) (.tmp 56) 68 rfl L.F 4 i0 _ 1 1 Try.underlying68 HI.out.1 HI.out.2.1 HI.out.2.2.1 HI.out.2.2.2 rfl (by omega) (.slice A1 1 c1) 1 (falses 1) rfl ((owns_on HR2.out gm).alloc _) ⟨w2.heap.size, 0, none⟩ 1 1 [.bool false] rfl rfl (World.news_of_block (heap_alloc_new w2 _)) (by simp [Value.oneCell']) (by omega) (by simp [maxLen]) (by omega) (by have := HV3.out.zF; have := gm.size; simp; omega) _ rfl ?_
                intro g cap w4 hown hgrow hat hlt
                have gm4 : Below L.F w2 w4 := (Below.mono (B := w2.heap.size) (Joins.below_alloc1 _ _) (by have := HV3.out.zF; have := gm.size; omega)).grown hgrow (by have := HV3.out.zF; have := gm.size; simp; omega) (fun k hk => (HR2.out.lt k hk).1)
                have ms2 := ((hgrow.cell_far ⟨L.S, 2, none⟩ (by simp; omega) (fun e => by have h := (HR2.out.lt _ e.symm).1; have h2 := HV3.out.n.S2; simp at h; omega)).trans ((Joins.below_alloc1 w2 _).cell (p := ⟨L.S, 2, none⟩) kzS)).trans ks2
                have mrr := ((hgrow.cell_far ⟨L.cl, 1, none⟩ (by simp; omega) (fun e => by have h := (HR2.out.lt _ e.symm).1; have h2 := HV3.out.n.c2; simp at h; omega)).trans ((Joins.below_alloc1 w2 _).cell (p := ⟨L.cl, 1, none⟩) kzc)).trans krr
                have mt0 := ((hgrow.cell_far ⟨t9, 0, none⟩ (by simp; omega) (fun e => HNB.out e.symm)).trans ((Joins.below_alloc1 w2 _).cell (p := ⟨t9, 0, none⟩) kzt)).trans kt0
                have mt1 := ((hgrow.cell_far ⟨t9, 1, none⟩ (by simp; omega) (fun e => HNB.out e.symm)).trans ((Joins.below_alloc1 w2 _).cell (p := ⟨t9, 1, none⟩) kzt)).trans kt1
                have mt2 := ((hgrow.cell_far ⟨t9, 2, none⟩ (by simp; omega) (fun e => HNB.out e.symm)).trans ((Joins.below_alloc1 w2 _).cell (p := ⟨t9, 2, none⟩) kzt)).trans kt2
                have mt3 := ((hgrow.cell_far ⟨t9, 3, none⟩ (by simp; omega) (fun e => HNB.out e.symm)).trans ((Joins.below_alloc1 w2 _).cell (p := ⟨t9, 3, none⟩) kzt)).trans kt3
                have mu0 := ((hgrow.cell_far ⟨u9, 0, none⟩ (by simp; omega) (fun e => by have h := HGU.out _ e.symm; simp at h)).trans ((Joins.below_alloc1 w2 _).cell (p := ⟨u9, 0, none⟩) kzu)).trans ku0
                have mu1 := ((hgrow.cell_far ⟨u9, 1, none⟩ (by simp; omega) (fun e => by have h := HGU.out _ e.symm; simp at h)).trans ((Joins.below_alloc1 w2 _).cell (p := ⟨u9, 1, none⟩) kzu)).trans ku1
                have mu2 := ((hgrow.cell_far ⟨u9, 2, none⟩ (by simp; omega) (fun e => by have h := HGU.out _ e.symm; simp at h)).trans ((Joins.below_alloc1 w2 _).cell (p := ⟨u9, 2, none⟩) kzu)).trans ku2
                have mu3 := ((hgrow.cell_far ⟨u9, 3, none⟩ (by simp; omega) (fun e => by have h := HGU.out _ e.symm; simp at h)).trans ((Joins.below_alloc1 w2 _).cell (p := ⟨u9, 3, none⟩) kzu)).trans ku3
                have mfc := ((hgrow.frozen_far ⟨L.cl, 1, none⟩ (by simp; omega) (fun e => by have h := (HR2.out.lt _ e.symm).1; have h2 := HV3.out.n.c2; simp at h; omega)).trans ((Joins.below_alloc1 w2 _).frozen (p := ⟨L.cl, 1, none⟩) kzc)).trans ((gm.frozen (p := ⟨L.cl, 1, none⟩) zc).trans (HV3.out.fc 1))
                have mzS := Nat.lt_of_lt_of_le kzS gm4.size
                have mzc := Nat.lt_of_lt_of_le kzc gm4.size
                have mzt := Nat.lt_of_lt_of_le kzt gm4.size
                have mzu := Nat.lt_of_lt_of_le kzu gm4.size
                refine hK.out _ _ ?_ (fun hHeld => ?_)
                · (try dsimp only); exact ⟨ms2, mt0, mt1, mt2, mt3, mu0, mu1, mu2, mu3⟩
                clear hK K
                (try simp only [Act.put, List.setIfInBounds_toArray])
                refine wpAnyH_ready (rs := [13]) (by kernel_rfl) (by simp) ?_
                refine AllReadyH.cons rfl (fun K hK => ?_) AllReadyH.nil
                go_simp
                refine hK.out _ _ ?_ (fun hHeld => ?_)
                · (try dsimp only); exact ⟨ms2, mt0, mt1, mt2, mt3, mu0, mu1, mu2, mu3⟩
                clear hK K
                (try simp only [Act.put, List.setIfInBounds_toArray, List.set_cons_zero, List.set_cons_succ])
                refine wpAnyH_ready (rs := [14]) (by kernel_rfl) (by simp) ?_
                refine AllReadyH.cons rfl (fun K hK => ?_) AllReadyH.nil
                go_simp
                refine hK.out _ _ ?_ (fun hHeld => ?_)
                · (try dsimp only); simp [go_sem, ms2, mt0, mt1, mt2, mt3, mu0, mu1, mu2, mu3]
                clear hK K
                (try simp only [Act.put, List.setIfInBounds_toArray])
                refine wpAnyH_done (by kernel_rfl) ?_ _
                have hfin := HV3.out.app1 (gm.trans ((Joins.below_alloc1 w2 (.cells #[.bool false] 4)).mono gm.size)) rr hgrow hat hown
                have HFIN := Lib.hid hfin
                have hg9 : g ≠ t9 := fun e => by
                    rcases hat with h | h
                    · exact HNB.out (by rw [h, e])
                    · simp at h; omega
                have HNB2 : Hid (∀ v, (w4.setCell ⟨L.cl, 1, none⟩ (.slice (some ⟨g, 0, none⟩) 2 cap)).cell? ⟨L.cl, 1, none⟩ = some v → v.ownBlock ≠ some t9) := Lib.hid (fun v hv => by
                    rw [cell_set_self, mrr] at hv
                    injection hv with hv
                    rw [← hv]
                    exact fun e => hg9 (by injection e))
                have HT9 := Lib.hid (And.intro ((sp_o (i := 1) hct (.slice (some ⟨g, 0, none⟩) 2 cap)).trans mt0) (And.intro ((sp_o (i := 1) hct (.slice (some ⟨g, 0, none⟩) 2 cap)).trans mt1) (And.intro ((sp_o (i := 1) hct (.slice (some ⟨g, 0, none⟩) 2 cap)).trans mt2) ((sp_o (i := 1) hct (.slice (some ⟨g, 0, none⟩) 2 cap)).trans mt3))))
                clear hfin hg9 hown hgrow hat hlt gm gm4 s2 rr t0 t1 t2 t3 u0 u1 u2 u3 ks2 krr kt0 kt1 kt2 kt3 ku0 ku1 ku2 ku3 ms2 mrr mt0 mt1 mt2 mt3 mu0 mu1 mu2 mu3
                go_wp2
                go_roundw
                case rel => exact ⟨.inr (.inr ⟨by go_num, HFIN.out⟩), HT9.out.1, HT9.out.2.1, HT9.out.2.2.1, HT9.out.2.2.2, by simpa using mzt, HNB2.out⟩
                case measure => simp [intOf]
              · go_simp
                refine hK.out _ _ ?_ (fun hHeld => ?_)
                · (try dsimp only); simp [go_sem, ks2, kt0, kt1, kt2, kt3, ku0, ku1, ku2, ku3, kzS, kzt, kzu]
                clear hK K
                (try simp only [Act.put, List.setIfInBounds_toArray, List.set_cons_zero, List.set_cons_succ])
                refine wpAnyH_ready (rs := [7]) (by kernel_rfl) (by simp) ?_
                refine AllReadyH.cons rfl (fun K hK => ?_) AllReadyH.nil
                go_simp
                refine hK.out _ _ ?_ (fun hHeld => ?_)
                · (try dsimp only); simp [go_sem, ks2, kt0, kt1, kt2, kt3, ku0, ku1, ku2, ku3, kzS, kzt, kzu]
                clear hK K
                (try simp only [Act.put, List.setIfInBounds_toArray, List.set_cons_zero, List.set_cons_succ])
                refine wpAnyH_ready (rs := [12]) (by kernel_rfl) (by simp) ?_
                refine AllReadyH.cons rfl (fun K hK => ?_) AllReadyH.nil
                refine step_append_lies _ rfl (.tmp 52) (.tmp 56) 68 rfl L.F 4 i0 _ 1 1 Try.underlying68 HI.out.1 HI.out.2.1 HI.out.2.2.1 HI.out.2.2.2 rfl (by omega) (.slice A1 1 c1) 1 (falses 1) rfl ((owns_on HR2.out gm).alloc _) ⟨w2.heap.size, 0, none⟩ 1 1 [.bool false] rfl rfl (World.news_of_block (heap_alloc_new w2 _)) (by simp [Value.oneCell']) (by omega) (by simp [maxLen]) (by omega) (by have := HV3.out.zF; have := gm.size; simp; omega) _ rfl ?_
                intro g cap w4 hown hgrow hat hlt
                have gm4 : Below L.F w2 w4 := (Below.mono (B := w2.heap.size) (Joins.below_alloc1 _ _) (by have := HV3.out.zF; have := gm.size; omega)).grown hgrow (by have := HV3.out.zF; have := gm.size; simp; omega) (fun k hk => (HR2.out.lt k hk).1)
                have ms2 := ((hgrow.cell_far ⟨L.S, 2, none⟩ (by simp; omega) (fun e => by have h := (HR2.out.lt _ e.symm).1; have h2 := HV3.out.n.S2; simp at h; omega)).trans ((Joins.below_alloc1 w2 _).cell (p := ⟨L.S, 2, none⟩) kzS)).trans ks2
                have mrr := ((hgrow.cell_far ⟨L.cl, 1, none⟩ (by simp; omega) (fun e => by have h := (HR2.out.lt _ e.symm).1; have h2 := HV3.out.n.c2; simp at h; omega)).trans ((Joins.below_alloc1 w2 _).cell (p := ⟨L.cl, 1, none⟩) kzc)).trans krr
                have mt0 := ((hgrow.cell_far ⟨t9, 0, none⟩ (by simp; omega) (fun e => HNB.out e.symm)).trans ((Joins.below_alloc1 w2 _).cell (p := ⟨t9, 0, none⟩) kzt)).trans kt0
                have mt1 := ((hgrow.cell_far ⟨t9, 1, none⟩ (by simp; omega) (fun e => HNB.out e.symm)).trans ((Joins.below_alloc1 w2 _).cell (p := ⟨t9, 1, none⟩) kzt)).trans kt1
                have mt2 := ((hgrow.cell_far ⟨t9, 2, none⟩ (by simp; omega) (fun e => HNB.out e.symm)).trans ((Joins.below_alloc1 w2 _).cell (p := ⟨t9, 2, none⟩) kzt)).trans kt2
                have mt3 := ((hgrow.cell_far ⟨t9, 3, none⟩ (by simp; omega) (fun e => HNB.out e.symm)).trans ((Joins.below_alloc1 w2 _).cell (p := ⟨t9, 3, none⟩) kzt)).trans kt3
                have mu0 := ((hgrow.cell_far ⟨u9, 0, none⟩ (by simp; omega) (fun e => by have h := HGU.out _ e.symm; simp at h)).trans ((Joins.below_alloc1 w2 _).cell (p := ⟨u9, 0, none⟩) kzu)).trans ku0
                have mu1 := ((hgrow.cell_far ⟨u9, 1, none⟩ (by simp; omega) (fun e => by have h := HGU.out _ e.symm; simp at h)).trans ((Joins.below_alloc1 w2 _).cell (p := ⟨u9, 1, none⟩) kzu)).trans ku1
                have mu2 := ((hgrow.cell_far ⟨u9, 2, none⟩ (by simp; omega) (fun e => by have h := HGU.out _ e.symm; simp at h)).trans ((Joins.below_alloc1 w2 _).cell (p := ⟨u9, 2, none⟩) kzu)).trans ku2
                have mu3 := ((hgrow.cell_far ⟨u9, 3, none⟩ (by simp; omega) (fun e => by have h := HGU.out _ e.symm; simp at h)).trans ((Joins.below_alloc1 w2 _).cell (p := ⟨u9, 3, none⟩) kzu)).trans ku3
                have mfc := ((hgrow.frozen_far ⟨L.cl, 1, none⟩ (by simp; omega) (fun e => by have h := (HR2.out.lt _ e.symm).1; have h2 := HV3.out.n.c2; simp at h; omega)).trans ((Joins.below_alloc1 w2 _).frozen (p := ⟨L.cl, 1, none⟩) kzc)).trans ((gm.frozen (p := ⟨L.cl, 1, none⟩) zc).trans (HV3.out.fc 1))
                have mzS := Nat.lt_of_lt_of_le kzS gm4.size
                have mzc := Nat.lt_of_lt_of_le kzc gm4.size
                have mzt := Nat.lt_of_lt_of_le kzt gm4.size
                have mzu := Nat.lt_of_lt_of_le kzu gm4.size
                refine hK.out _ _ ?_ (fun hHeld => ?_)
                · (try dsimp only); exact ⟨ms2, mt0, mt1, mt2, mt3, mu0, mu1, mu2, mu3⟩
                clear hK K
                (try simp only [Act.put, List.setIfInBounds_toArray])
                refine wpAnyH_ready (rs := [13]) (by kernel_rfl) (by simp) ?_
                refine AllReadyH.cons rfl (fun K hK => ?_) AllReadyH.nil
                go_simp
                refine hK.out _ _ ?_ (fun hHeld => ?_)
                · (try dsimp only); exact ⟨ms2, mt0, mt1, mt2, mt3, mu0, mu1, mu2, mu3⟩
                clear hK K
                (try simp only [Act.put, List.setIfInBounds_toArray, List.set_cons_zero, List.set_cons_succ])
                refine wpAnyH_ready (rs := [14]) (by kernel_rfl) (by simp) ?_
                refine AllReadyH.cons rfl (fun K hK => ?_) AllReadyH.nil
                go_simp
                refine hK.out _ _ ?_ (fun hHeld => ?_)
                · (try dsimp only); simp [go_sem, ms2, mt0, mt1, mt2, mt3, mu0, mu1, mu2, mu3]
                clear hK K
                (try simp only [Act.put, List.setIfInBounds_toArray])
                refine wpAnyH_done (by kernel_rfl) ?_ _
                have hfin := HV3.out.app1 (gm.trans ((Joins.below_alloc1 w2 (.cells #[.bool false] 4)).mono gm.size)) rr hgrow hat hown
                have HFIN := Lib.hid hfin
                have hg9 : g ≠ t9 := fun e => by
                    rcases hat with h | h
                    · exact HNB.out (by rw [h, e])
                    · simp at h; omega
                have HNB2 : Hid (∀ v, (w4.setCell ⟨L.cl, 1, none⟩ (.slice (some ⟨g, 0, none⟩) 2 cap)).cell? ⟨L.cl, 1, none⟩ = some v → v.ownBlock ≠ some t9) := Lib.hid (fun v hv => by
                    rw [cell_set_self, mrr] at hv
                    injection hv with hv
                    rw [← hv]
                    exact fun e => hg9 (by injection e))
                have HT9 := Lib.hid (And.intro ((sp_o (i := 1) hct (.slice (some ⟨g, 0, none⟩) 2 cap)).trans mt0) (And.intro ((sp_o (i := 1) hct (.slice (some ⟨g, 0, none⟩) 2 cap)).trans mt1) (And.intro ((sp_o (i := 1) hct (.slice (some ⟨g, 0, none⟩) 2 cap)).trans mt2) ((sp_o (i := 1) hct (.slice (some ⟨g, 0, none⟩) 2 cap)).trans mt3))))
                clear hfin hg9 hown hgrow hat hlt gm gm4 s2 rr t0 t1 t2 t3 u0 u1 u2 u3 ks2 krr kt0 kt1 kt2 kt3 ku0 ku1 ku2 ku3 ms2 mrr mt0 mt1 mt2 mt3 mu0 mu1 mu2 mu3
                go_wp2
                go_roundw
                case rel => exact ⟨.inr (.inr ⟨by go_num, HFIN.out⟩), HT9.out.1, HT9.out.2.1, HT9.out.2.2.1, HT9.out.2.2.2, by simpa using mzt, HNB2.out⟩
                case measure => simp [intOf]

          · go_wp2
            go_roundw
            case rel => exact .inr (.inr ⟨by go_num, HV3.out⟩)
            case measure => simp [intOf]
      · have hbw : Below w.heap.size w wr := by have h := hV.be; rw [HL.out.2.2] at h; exact h
        obtain ⟨LL, hS1, hS2, hSP⟩ := hV.done (by rw [HL.out.1]; exact HM.out) (by rw [HL.out.1, HL.out.2.2]; exact HZ.out.1) (by rw [HL.out.2.1]; exact HQ.out.1) (by rw [HL.out.2.1]; exact HQ.out.2) HL.out.2.2
        have hC := place_all LL L.B w wr hSP
        rw [hS1] at hC
        have HC := Lib.hid hC
        have HS2 := Lib.hid (And.intro hS1 hS2)
        clear hC hV hSP hbw
        go_wp2_with fail
        refine HC.out.mono ?_
        rintro e w5 ⟨rfl, hSP5, -⟩
        have s4 := hSP5.f.s4
        have zS := hSP5.f.zS
        have zs := hSP5.f.zs
        have hbs := hSP5.v.b
        have hbe := hSP5.be
        rw [HS2.out.1] at s4 zS
        rw [HS2.out.2] at s4 zs hbs
        have HF := Lib.hid (And.intro zs (And.intro hbs hbe))
        clear hSP5 HC zs hbs hbe hS1 hS2
        go_wp2
        go_ret
        exact ⟨⟨L.bs, rfl, HF.out.1, HF.out.2.1⟩, by have h := HF.out.2.2; rw [HL.out.2.2] at h; exact h⟩
end Go.Proofs.Ytljhocdbfbjpiaa
