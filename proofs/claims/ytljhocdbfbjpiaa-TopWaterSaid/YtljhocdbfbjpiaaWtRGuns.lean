/-
  The walk of the reference's function that checks kinds and guns.
-/
import Derived.Test.YtljhocdbfbjpiaaWtKind
import Derived.Test.YtljhocdbfbjpiaaWtRKind
namespace Go.Proofs.Ytljhocdbfbjpiaa
open Go.RowKit
set_option maxRecDepth 20000 in
set_option maxHeartbeats 2000000 in
theorem rfind_any (n c : Nat) (K : KK) (x : Int) (A : Option Addr) (w : World) (hR : RdK w A n K) (hn : n ≤ 1000) :
    Calls Try.prog 86 #[.slice A n c, .int .i64 x] w fun e w' => e = .returned (.tuple #[kV K (kFirst K x n), .bool (kFirst K x n).isSome]) ∧ Below w.heap.size w w' := by
  have HR := Lib.hid hR
  have HN := Lib.hid hn
  clear hR
  go_enter Try.func86, Try.ntmps86
  go_wp2
  go_loopw [6] (fun i wr => ∃ k : Nat, k ≤ n ∧ i = .int .i64 k ∧ Hid (kFirst K x k = none) ∧ KRel w wr) (fun i _ => n - (intOf i).toNat)
  case atStart => exact ⟨0, Nat.zero_le _, rfl, Lib.hid rfl, Joins.below_alloc1 _ _, by simp, by simp [go_sem], by simp [go_sem], by simp [go_sem], by simp [go_sem], fun k => by simp [go_sem]⟩
  case round =>
    obtain ⟨k, hk, rfl, HK, hrl⟩ := hrel
    have HREL := Lib.hid hrl
    obtain ⟨hb, hz, d0, d1, d2, d3, fz⟩ := hrl
    by_cases hlt : k < n
    · have hlti : (k : Int) < (n : Int) := by omega
      obtain ⟨b, off, rfl, hbz, q0, q1, q2, q3⟩ := (HR.out.below hb).at_ hlt
      have HLT := Lib.hid hlt
      obtain ⟨y, hy⟩ : ∃ y, y = K.id k := ⟨_, rfl⟩
      rw [← hy] at q0
      have HY := Lib.hid hy
      clear hb hy
      by_cases he : y = x
      · have he2 : (y == x) = true := beq_iff_eq.2 he
        have HV : Hid (kFirst K x n = some k) := Lib.hid (by
          have h1 : kFirst K x (k + 1) = some k := by rw [kFirst, HK.out]; simp [← HY.out, he]
          have h2 := kFirst_mono (n - (k + 1)) h1
          rwa [show k + 1 + (n - (k + 1)) = n by have := HLT.out; omega] at h2)
        have hbe := HREL.out.be
        clear he
        go_wp2
        refine bodyPost_ret (v := .tuple #[kV K (some k), .bool true]) (by rw [kV, ← HY.out]; simp [results, Try.results86, go_sem, d0, d1, d2, d3]; try rfl) rfl ?_
        refine ⟨by rw [HV.out]; rfl, ?_⟩
        have hse : ∀ (p : Nat) (v : Value) (W : World), Below w.heap.size w W → Below w.heap.size w (W.setCell ⟨w.heap.size, p, none⟩ v) := fun p v W h => h.setCell (Nat.le_refl w.heap.size) v
        exact hse _ _ _ (hse _ _ _ (hse _ _ _ (hse _ _ _ hbe)))
      · have he2 : (y == x) = false := beq_eq_false_iff_ne.2 he
        have HV : Hid (kFirst K x (k + 1) = none) := Lib.hid (by rw [kFirst, HK.out]; simp [← HY.out, he])
        clear he
        go_wp2
        go_roundw
        case rel => exact ⟨k + 1, HLT.out, by go_num, HV, HREL.out⟩
        case measure => have := HLT.out; simp [intOf]; omega
    · have hlti : decide ((k : Int) < (n : Int)) = false := decide_eq_false (by omega)
      have HV : Hid (kFirst K x n = none) := Lib.hid (by rw [← show k = n by omega]; exact HK.out)
      have hbe := HREL.out.be
      clear hb
      go_wp2
      refine bodyPost_ret (v := .tuple #[kV K none, .bool false]) (by rw [kV]; simp [results, Try.results86, go_sem, d0, d1, d2, d3]; try rfl) rfl ?_
      refine ⟨by rw [HV.out]; rfl, ?_⟩
      exact (((hbe.setCell (Nat.le_refl _) _).setCell (Nat.le_refl _) _).setCell (Nat.le_refl _) _).setCell (Nat.le_refl _) _
end Go.Proofs.Ytljhocdbfbjpiaa
namespace Go.Proofs.Ytljhocdbfbjpiaa
open Go.RowKit

theorem rid_two (x : Int) : ((∀ W, Calls Try.prog 84 #[.int .i64 x] W fun e w' => e = .returned (.bool true) ∧ W = w') ∧ 1 ≤ x ∧ x ≤ 9999) ∨ ∀ W, Calls Try.prog 84 #[.int .i64 x] W fun e w' => e = .returned (.bool false) ∧ W = w' := by
  by_cases h : 1 ≤ x ∧ x ≤ 9999
  · refine .inl ⟨fun W => ?_, h⟩
    have := rid_any x W
    rwa [decide_eq_true h.1, decide_eq_true h.2] at this
  · refine .inr fun W => ?_
    have := rid_any x W
    rwa [show (decide (1 ≤ x) && decide (x ≤ 9999)) = false by simp; omega] at this
theorem rday_two (x : Int) : (∀ W, Calls Try.prog 85 #[.int .i64 x] W fun e w' => e = .returned (.bool true) ∧ W = w') ∨ ∀ W, Calls Try.prog 85 #[.int .i64 x] W fun e w' => e = .returned (.bool false) ∧ W = w' := by
  cases h : (decide (0 ≤ x) && decide (x ≤ 86400))
  · exact .inr fun W => by have := rday_any x W; rwa [h] at this
  · exact .inl fun W => by have := rday_any x W; rwa [h] at this
theorem rfind_two (n c : Nat) (K : KK) (x : Int) (A : Option Addr) (w : World) (hR : RdK w A n K) (hn : n ≤ 8) :
    (∃ i s sl sc k p r, Calls Try.prog 86 #[.slice A n c, .int .i64 x] w fun e w' => e = .returned (.tuple #[.agg #[.int .i64 i, .slice s sl sc, .int .i64 p, .int .i64 r], .bool k]) ∧ Below w.heap.size w w') := by
  have h := rfind_any n c K x A w hR (by omega)
  cases e : kFirst K x n with
  | none => rw [e] at h; exact ⟨_, _, _, _, _, _, _, h⟩
  | some i => rw [e] at h; exact ⟨_, _, _, _, _, _, _, h⟩
set_option maxRecDepth 20000 in
set_option maxHeartbeats 16000000 in
theorem rguns_any (n m c d : Nat) (K : KK) (g : Nat → Nat → Int) (A B : Option Addr) (w : World) (hK : RdK w A n K) (hG : RI w B 8 m g) (hn : n ≤ 8) (hm : m ≤ 8) (hl : ∀ i, i < n → (K.p i).length ≤ 70) :
    Calls Try.prog 60 #[.slice A n c, .slice B m d] w fun e w' => (∃ E : Int, e = .returned (.int .i64 E) ∧ (E = 0 → (∀ i, i < n → (0 ≤ K.pw i ∧ K.pw i ≤ 1000000) ∧ YOK (K.p i)) ∧ ∀ i, i < m → 1 ≤ g i 2 ∧ g i 2 ≤ 9999)) ∧ Below w.heap.size w w' := by
  have HK := Lib.hid hK
  have HG := Lib.hid hG
  have HL := Lib.hid hl
  have HN := Lib.hid hn
  have hni : (n : Int) ≤ 8 := by omega
  have hmi : (m : Int) ≤ 8 := by omega
  clear hK hG hl hn
  go_enter Try.func60, Try.ntmps60
  go_wp2
  go_loopw [5] (fun i wr => ∃ k : Nat, k ≤ n ∧ i = .int .i64 k ∧ (∀ i, i < k → (0 ≤ K.pw i ∧ K.pw i ≤ 1000000) ∧ YOK (K.p i)) ∧ Below w.heap.size w wr) (fun i _ => n - (intOf i).toNat)
  case atStart => exact ⟨0, Nat.zero_le _, rfl, fun m hm => absurd hm (by omega), Below.refl _ _⟩
  case round =>
    obtain ⟨k, hk, rfl, hall, hb⟩ := hrel
    have HALL := Lib.hid hall
    have HB := Lib.hid hb
    clear hall hb
    by_cases hlt : k < n
    · have hlti : (k : Int) < (n : Int) := by omega
      have HC := Lib.hid (rkind_any n c k K A _ (HK.out.below HB.out) HN.out hlt (HL.out k hlt))
      have HLT := Lib.hid hlt
      go_wp2_with fail
      refine HC.out.mono ?_
      rintro e w1 ⟨⟨E, rfl, hok⟩, hb1⟩
      have HB1 := Lib.hid (thru HB.out hb1 HB.out.size)
      have HOK := Lib.hid hok
      clear hb1 hok HC
      by_cases hE : E = 0
      · subst hE
        have HO := Lib.hid (HOK.out rfl)
        clear HOK
        go_wp2
        go_roundw
        case rel =>
          refine ⟨k + 1, HLT.out, by go_num, fun i hi => ?_, HB1.out⟩
          by_cases e : i = k
          · subst e; exact HO.out
          · exact HALL.out i (by omega)
        case measure => have := HLT.out; simp [intOf]; omega
      · have hE1 : (E == 0) = false := beq_eq_false_iff_ne.2 hE
        have hE2 : (E != 0) = true := by simp [hE]
        have HE := Lib.hid hE
        clear hE
        go_wp2
        go_ret
        exact ⟨⟨E, rfl, fun h => absurd h HE.out⟩, HB1.out⟩
    · have hlti : decide ((k : Int) < (n : Int)) = false := decide_eq_false (by omega)
      obtain rfl : k = n := by omega
      clear hlt hk
      go_wp2
      go_loopw [7] (fun i wr => ∃ q : Nat, q ≤ m ∧ i = .int .i64 q ∧ (∀ i, i < q → 1 ≤ g i 2 ∧ g i 2 ≤ 9999) ∧ Below w.heap.size w wr) (fun i _ => m - (intOf i).toNat)
      case atStart => exact ⟨0, Nat.zero_le _, rfl, fun m hm => absurd hm (by omega), HB.out⟩
      case round =>
        obtain ⟨q, hq, rfl, hall, hb⟩ := hrel
        have HAG := Lib.hid hall
        have HBG := Lib.hid hb
        clear hall hb
        by_cases hlt : q < m
        · have hltq : (q : Int) < (m : Int) := by omega
          obtain ⟨b, off, rfl, hbz, hc⟩ := (HG.out.below HBG.out).at_ hlt
          have c0 := hc 0 (by omega)
          have c1 := hc 1 (by omega)
          have c2 := hc 2 (by omega)
          have c3 := hc 3 (by omega)
          have c4 := hc 4 (by omega)
          have c5 := hc 5 (by omega)
          have c6 := hc 6 (by omega)
          have c7 := hc 7 (by omega)
          rw [Nat.add_zero] at c0
          obtain ⟨x0, e0⟩ : ∃ x, x = g q 0 := ⟨_, rfl⟩
          rw [← e0] at c0
          obtain ⟨x1, e1⟩ : ∃ x, x = g q 1 := ⟨_, rfl⟩
          rw [← e1] at c1
          obtain ⟨x2, e2⟩ : ∃ x, x = g q 2 := ⟨_, rfl⟩
          rw [← e2] at c2
          obtain ⟨x3, e3⟩ : ∃ x, x = g q 3 := ⟨_, rfl⟩
          rw [← e3] at c3
          obtain ⟨x4, e4⟩ : ∃ x, x = g q 4 := ⟨_, rfl⟩
          rw [← e4] at c4
          obtain ⟨x5, e5⟩ : ∃ x, x = g q 5 := ⟨_, rfl⟩
          rw [← e5] at c5
          obtain ⟨x6, e6⟩ : ∃ x, x = g q 6 := ⟨_, rfl⟩
          rw [← e6] at c6
          obtain ⟨x7, e7⟩ : ∃ x, x = g q 7 := ⟨_, rfl⟩
          rw [← e7] at c7
          have HLT := Lib.hid hlt
          have HE2 := Lib.hid e2
          clear hc hlt e0 e1 e2 e3 e4 e5 e6 e7
          rcases rid_two x0 with ⟨h, h0, h0'⟩ | h
          rotate_left
          · have H0 := Lib.hid h
            clear h
            go_wp2_with (first | ((go_at_call 84; with_reducible refine (H0.out _).mono ?_; rintro e1 w1 ⟨rfl, rfl⟩)))
            go_ret
            exact ⟨⟨2, rfl, fun h => absurd h (by decide)⟩, HBG.out.alloc HBG.out.size _⟩
          have H0 := Lib.hid h
          clear h
          rcases rid_two x1 with ⟨h, h1, h1'⟩ | h
          rotate_left
          · have H1 := Lib.hid h
            clear h
            go_wp2_with (first | ((go_at_call 84; with_reducible refine (H0.out _).mono ?_; rintro e1 w1 ⟨rfl, rfl⟩)) | ((go_at_call 84; with_reducible refine (H1.out _).mono ?_; rintro e1 w1 ⟨rfl, rfl⟩)))
            go_ret
            exact ⟨⟨2, rfl, fun h => absurd h (by decide)⟩, HBG.out.alloc HBG.out.size _⟩
          have H1 := Lib.hid h
          clear h
          rcases rid_two x2 with ⟨h, h2, h2'⟩ | h
          rotate_left
          · have H2 := Lib.hid h
            clear h
            go_wp2_with (first | ((go_at_call 84; with_reducible refine (H0.out _).mono ?_; rintro e1 w1 ⟨rfl, rfl⟩)) | ((go_at_call 84; with_reducible refine (H1.out _).mono ?_; rintro e1 w1 ⟨rfl, rfl⟩)) | ((go_at_call 84; with_reducible refine (H2.out _).mono ?_; rintro e1 w1 ⟨rfl, rfl⟩)))
            go_ret
            exact ⟨⟨2, rfl, fun h => absurd h (by decide)⟩, HBG.out.alloc HBG.out.size _⟩
          have H2 := Lib.hid h
          clear h
          by_cases t0 : x4 < 0
          · have s0 : decide (x4 < 0) = true := decide_eq_true t0
            clear t0
            go_wp2_with (first | ((go_at_call 84; with_reducible refine (H0.out _).mono ?_; rintro e1 w1 ⟨rfl, rfl⟩)) | ((go_at_call 84; with_reducible refine (H1.out _).mono ?_; rintro e1 w1 ⟨rfl, rfl⟩)) | ((go_at_call 84; with_reducible refine (H2.out _).mono ?_; rintro e1 w1 ⟨rfl, rfl⟩)))
            go_ret
            exact ⟨⟨2, rfl, fun h => absurd h (by decide)⟩, HBG.out.alloc HBG.out.size _⟩
          have s0 : decide (x4 < 0) = false := decide_eq_false t0
          clear t0
          by_cases t1 : 2 < x4
          · have s1 : decide (2 < x4) = true := decide_eq_true t1
            clear t1
            go_wp2_with (first | ((go_at_call 84; with_reducible refine (H0.out _).mono ?_; rintro e1 w1 ⟨rfl, rfl⟩)) | ((go_at_call 84; with_reducible refine (H1.out _).mono ?_; rintro e1 w1 ⟨rfl, rfl⟩)) | ((go_at_call 84; with_reducible refine (H2.out _).mono ?_; rintro e1 w1 ⟨rfl, rfl⟩)))
            go_ret
            exact ⟨⟨2, rfl, fun h => absurd h (by decide)⟩, HBG.out.alloc HBG.out.size _⟩
          have s1 : decide (2 < x4) = false := decide_eq_false t1
          clear t1
          by_cases t2 : x5 < 0
          · have s2 : decide (x5 < 0) = true := decide_eq_true t2
            clear t2
            go_wp2_with (first | ((go_at_call 84; with_reducible refine (H0.out _).mono ?_; rintro e1 w1 ⟨rfl, rfl⟩)) | ((go_at_call 84; with_reducible refine (H1.out _).mono ?_; rintro e1 w1 ⟨rfl, rfl⟩)) | ((go_at_call 84; with_reducible refine (H2.out _).mono ?_; rintro e1 w1 ⟨rfl, rfl⟩)))
            go_ret
            exact ⟨⟨2, rfl, fun h => absurd h (by decide)⟩, HBG.out.alloc HBG.out.size _⟩
          have s2 : decide (x5 < 0) = false := decide_eq_false t2
          clear t2
          by_cases t3 : 20000000 < x5
          · have s3 : decide (20000000 < x5) = true := decide_eq_true t3
            clear t3
            go_wp2_with (first | ((go_at_call 84; with_reducible refine (H0.out _).mono ?_; rintro e1 w1 ⟨rfl, rfl⟩)) | ((go_at_call 84; with_reducible refine (H1.out _).mono ?_; rintro e1 w1 ⟨rfl, rfl⟩)) | ((go_at_call 84; with_reducible refine (H2.out _).mono ?_; rintro e1 w1 ⟨rfl, rfl⟩)))
            go_ret
            exact ⟨⟨2, rfl, fun h => absurd h (by decide)⟩, HBG.out.alloc HBG.out.size _⟩
          have s3 : decide (20000000 < x5) = false := decide_eq_false t3
          clear t3
          rcases rday_two x6 with h | h
          rotate_left
          · have H6 := Lib.hid h
            clear h
            go_wp2_with (first | ((go_at_call 84; with_reducible refine (H0.out _).mono ?_; rintro e1 w1 ⟨rfl, rfl⟩)) | ((go_at_call 84; with_reducible refine (H1.out _).mono ?_; rintro e1 w1 ⟨rfl, rfl⟩)) | ((go_at_call 84; with_reducible refine (H2.out _).mono ?_; rintro e1 w1 ⟨rfl, rfl⟩)) | ((go_at_call 85; with_reducible refine (H6.out _).mono ?_; rintro e1 w1 ⟨rfl, rfl⟩)))
            go_ret
            exact ⟨⟨2, rfl, fun h => absurd h (by decide)⟩, HBG.out.alloc HBG.out.size _⟩
          have H6 := Lib.hid h
          clear h
          rcases rday_two x7 with h | h
          rotate_left
          · have H7 := Lib.hid h
            clear h
            go_wp2_with (first | ((go_at_call 84; with_reducible refine (H0.out _).mono ?_; rintro e1 w1 ⟨rfl, rfl⟩)) | ((go_at_call 84; with_reducible refine (H1.out _).mono ?_; rintro e1 w1 ⟨rfl, rfl⟩)) | ((go_at_call 84; with_reducible refine (H2.out _).mono ?_; rintro e1 w1 ⟨rfl, rfl⟩)) | ((go_at_call 85; with_reducible refine (H6.out _).mono ?_; rintro e1 w1 ⟨rfl, rfl⟩)) | ((go_at_call 85; with_reducible refine (H7.out _).mono ?_; rintro e1 w1 ⟨rfl, rfl⟩)))
            go_ret
            exact ⟨⟨2, rfl, fun h => absurd h (by decide)⟩, HBG.out.alloc HBG.out.size _⟩
          have H7 := Lib.hid h
          clear h
          have HGG : Hid (∀ i, i < q + 1 → 1 ≤ g i 2 ∧ g i 2 ≤ 9999) := Lib.hid fun i hi => by
            by_cases e : i = q
            · subst e; rw [← HE2.out]; exact ⟨h2, h2'⟩
            · exact HAG.out i (by omega)
          clear h0 h0' h1 h1' h2 h2'
          go_wp2_with (first | ((go_at_call 84; with_reducible refine (H0.out _).mono ?_; rintro e1 w1 ⟨rfl, rfl⟩)) | ((go_at_call 84; with_reducible refine (H1.out _).mono ?_; rintro e1 w1 ⟨rfl, rfl⟩)) | ((go_at_call 84; with_reducible refine (H2.out _).mono ?_; rintro e1 w1 ⟨rfl, rfl⟩)) | ((go_at_call 85; with_reducible refine (H6.out _).mono ?_; rintro e1 w1 ⟨rfl, rfl⟩)) | ((go_at_call 85; with_reducible refine (H7.out _).mono ?_; rintro e1 w1 ⟨rfl, rfl⟩)))
          go_loopw [9] (fun i wq => ∃ j : Nat, j ≤ q ∧ i = .int .i64 j ∧ wq.cell? ⟨wr.heap.size, 0, none⟩ = some (.int .i64 x0) ∧ wq.cell? ⟨wr.heap.size, 3, none⟩ = some (.int .i64 x3) ∧ wr.heap.size < wq.heap.size ∧ Below wr.heap.size wr wq) (fun i _ => q - (intOf i).toNat)
          case atStart => exact ⟨0, Nat.zero_le _, rfl, by simp [go_sem], by simp [go_sem], by simp, Joins.below_alloc1 _ _⟩
          case round =>
            obtain ⟨j, hj, rfl, cg, cg3, hz, hbq⟩ := hrel
            have HBQ := Lib.hid hbq
            clear hbq s0 s1 s2 s3 H0 H1 H2 H6 H7
            by_cases hjk : j < q
            · obtain ⟨b', off', ee, hbl', hd⟩ := ((HG.out.below HBG.out).below HBQ.out).at_ (i := j) (by have := HLT.out; omega)
              injection ee with ee
              injection ee with ee1 ee2
              subst ee1 ee2
              have d0 := hd 0 (by omega)
              rw [Nat.add_zero] at d0
              obtain ⟨x, hx⟩ : ∃ x, x = g j 0 := ⟨_, rfl⟩
              rw [← hx] at d0
              have HJK := Lib.hid hjk
              have hjl : (j : Int) < (m : Int) := by have := HLT.out; omega
              clear hx hd c0 c1 c2 c3 c4 c5 c6 c7
              by_cases hxe : x = x0
              · subst hxe
                go_wp2
                go_quiet (fail)
                go_wp2
                go_ret
                exact ⟨⟨7, rfl, fun h => absurd h (by decide)⟩, (thru HBG.out HBQ.out HBG.out.size).trans (Joins.below_draws _ _ _)⟩
              · have hx1 : (x == x0) = false := beq_eq_false_iff_ne.2 hxe
                have hx2 : decide (x = x0) = false := decide_eq_false hxe
                clear hxe
                go_wp2
                go_quiet (fail)
                go_wp2
                go_roundw
                case rel => exact ⟨j + 1, HJK.out, by go_num, by simp [go_sem, cg], by simp [go_sem, cg3], by simpa using hz, HBQ.out.trans (Joins.below_draws _ _ _)⟩
                case measure => have := HJK.out; simp [intOf]; omega
            · have hje : j = q := by omega
              subst hje
              clear hj hjk cg c0 c1 c2 c3 c4 c5 c6 c7
              have HB2 := Lib.hid (thru HBG.out HBQ.out HBG.out.size)
              obtain ⟨fi, fs, fsl, fsc, fk, fp, fr, hf⟩ := rfind_two k c K x3 A _ (HK.out.below HB2.out) HN.out
              have HF := Lib.hid hf
              clear hf
              cases fk with
              | false =>
                go_wp2_with fail
                refine HF.out.mono ?_
                rintro e w1 ⟨rfl, hb1⟩
                have HB3 := Lib.hid (thru HB2.out hb1 HB2.out.size)
                clear hb1 HF hz cg3
                go_wp2
                go_ret
                exact ⟨⟨8, rfl, fun h => absurd h (by decide)⟩, HB3.out.alloc HB3.out.size _⟩
              | true =>
                go_wp2_with fail
                refine HF.out.mono ?_
                rintro e w1 ⟨rfl, hb1⟩
                have HB3 := Lib.hid (thru HB2.out hb1 HB2.out.size)
                clear hb1 HF hz cg3
                go_wp2
                go_roundw
                case rel => exact ⟨j + 1, HLT.out, by go_num, HGG.out, HB3.out.alloc HB3.out.size _⟩
                case measure => have := HLT.out; simp [intOf]; omega
        · have hltq : decide ((q : Int) < (m : Int)) = false := decide_eq_false (by omega)
          obtain rfl : q = m := by omega
          clear hlt
          go_wp2
          go_ret
          exact ⟨⟨0, rfl, fun _ => ⟨HALL.out, HAG.out⟩⟩, HBG.out⟩
end Go.Proofs.Ytljhocdbfbjpiaa
