/-
  The walks of the reference's functions that check the parts of a system, and a system.
-/
import Derived.Test.YtljhocdbfbjpiaaIntRows
import Derived.Test.YtljhocdbfbjpiaaWtSnow
import Derived.BigQuiet
import Derived.Test.YtljhocdbfbjpiaaWtRGuns
import Derived.Test.YtljhocdbfbjpiaaWtRight
import Derived.Test.YtljhocdbfbjpiaaWtStepA
namespace Go.Proofs.Ytljhocdbfbjpiaa
open Go.RowKit

theorem rwithin_any (x m : Int) (w : World) : Calls Try.prog 32 #[.int .i64 x, .int .i64 m] w fun e w' => e = .returned (.bool (decide (0 ≤ x) && decide (x ≤ m))) ∧ w = w' := by
  go_enter Try.func32, Try.ntmps32
  go_wp2
  all_goals
    go_ret
    exact ⟨ret_bool (by simp [*]; try omega), rfl⟩
theorem rwithin_two (x m : Int) : ((∀ W, Calls Try.prog 32 #[.int .i64 x, .int .i64 m] W fun e w' => e = .returned (.bool true) ∧ W = w') ∧ 0 ≤ x ∧ x ≤ m) ∨ ∀ W, Calls Try.prog 32 #[.int .i64 x, .int .i64 m] W fun e w' => e = .returned (.bool false) ∧ W = w' := by
  by_cases h : 0 ≤ x ∧ x ≤ m
  · refine .inl ⟨fun W => ?_, h⟩
    have := rwithin_any x m W
    rwa [decide_eq_true h.1, decide_eq_true h.2] at this
  · refine .inr fun W => ?_
    have := rwithin_any x m W
    rwa [show (decide (0 ≤ x) && decide (x ≤ m)) = false by simp; omega] at this
/-- Is there a row with a number in a column? -/
def hasC (f : Nat → Nat → Int) (c : Nat) (x : Int) : Nat → Bool
  | 0 => false
  | n + 1 => hasC f c x n || f n c == x
theorem hasC_mono {f : Nat → Nat → Int} {c : Nat} {x : Int} : ∀ {k : Nat} (d : Nat), hasC f c x k = true → hasC f c x (k + d) = true
  | _, 0, h => h
  | k, d + 1, h => by
    have := hasC_mono (k := k) d h
    show (hasC f c x (k + d) || f (k + d) c == x) = true
    rw [this]; rfl
set_option maxRecDepth 20000 in
set_option maxHeartbeats 2000000 in
theorem r44pack_any (n c : Nat) (f : Nat → Nat → Int) (x : Int) (A : Option Addr) (w : World) (hR : RI w A 5 n f) (hn : n ≤ 8) :
    Calls Try.prog 30 #[.slice A n c, .int .i64 x] w fun e w' => e = .returned (.bool (hasC f 0 x n)) ∧ w = w' := by
  have HR := Lib.hid hR
  have hni : (n : Int) ≤ 8 := by omega
  clear hR
  go_enter Try.func30, Try.ntmps30
  go_wp2
  go_loopw [5] (fun i wr => ∃ k : Nat, k ≤ n ∧ i = .int .i64 k ∧ Hid (hasC f 0 x k = false) ∧ w = wr) (fun i _ => n - (intOf i).toNat)
  case atStart => exact ⟨0, Nat.zero_le _, rfl, Lib.hid rfl, rfl⟩
  case round =>
    obtain ⟨k, hk, rfl, HF, rfl⟩ := hrel
    by_cases hlt : k < n
    · have hlti : (k : Int) < (n : Int) := by omega
      obtain ⟨b, off, rfl, hbz, hc⟩ := HR.out.at_ hlt
      have c0 := hc 0 (by omega)
      rw [Nat.add_zero] at c0
      obtain ⟨x0, e0⟩ : ∃ x, x = f k 0 := ⟨_, rfl⟩
      rw [← e0] at c0
      have HLT := Lib.hid hlt
      have HE0 := Lib.hid e0
      clear hc e0
      by_cases he : x0 = x
      · have he2 : (x0 == x) = true := beq_iff_eq.2 he
        have HT : Hid (hasC f 0 x n = true) := Lib.hid (by
          have h1 : hasC f 0 x (k + 1) = true := by rw [hasC, ← HE0.out, he2]; simp
          have h2 := hasC_mono (n - (k + 1)) h1
          rwa [show k + 1 + (n - (k + 1)) = n by have := HLT.out; omega] at h2)
        clear he
        go_wp2
        go_ret
        exact ⟨ret_bool HT.out.symm, rfl⟩
      · have he2 : (x0 == x) = false := beq_eq_false_iff_ne.2 he
        have HF1 : Hid (hasC f 0 x (k + 1) = false) := Lib.hid (by rw [hasC, HF.out, ← HE0.out, he2]; rfl)
        clear he
        go_wp2
        go_roundw
        case rel => exact ⟨k + 1, HLT.out, by go_num, HF1, by first | rfl | trivial⟩
        case measure => have := HLT.out; simp [intOf]; omega
    · have hlti : decide ((k : Int) < (n : Int)) = false := decide_eq_false (by omega)
      obtain rfl : k = n := by omega
      clear hlt
      go_wp2
      go_ret
      exact ⟨ret_bool HF.out.symm, rfl⟩
set_option maxRecDepth 20000 in
set_option maxHeartbeats 2000000 in
theorem r44node_any (n c : Nat) (f : Nat → Nat → Int) (x : Int) (A : Option Addr) (w : World) (hR : RI w A 5 n f) (hn : n ≤ 8) :
    Calls Try.prog 31 #[.slice A n c, .int .i64 x] w fun e w' => e = .returned (.bool (hasC f 2 x n)) ∧ w = w' := by
  have HR := Lib.hid hR
  have hni : (n : Int) ≤ 8 := by omega
  clear hR
  go_enter Try.func31, Try.ntmps31
  go_wp2
  go_loopw [5] (fun i wr => ∃ k : Nat, k ≤ n ∧ i = .int .i64 k ∧ Hid (hasC f 2 x k = false) ∧ w = wr) (fun i _ => n - (intOf i).toNat)
  case atStart => exact ⟨0, Nat.zero_le _, rfl, Lib.hid rfl, rfl⟩
  case round =>
    obtain ⟨k, hk, rfl, HF, rfl⟩ := hrel
    by_cases hlt : k < n
    · have hlti : (k : Int) < (n : Int) := by omega
      obtain ⟨b, off, rfl, hbz, hc⟩ := HR.out.at_ hlt
      have c0 := hc 2 (by omega)
      obtain ⟨x0, e0⟩ : ∃ x, x = f k 2 := ⟨_, rfl⟩
      rw [← e0] at c0
      have HLT := Lib.hid hlt
      have HE0 := Lib.hid e0
      clear hc e0
      by_cases he : x0 = x
      · have he2 : (x0 == x) = true := beq_iff_eq.2 he
        have HT : Hid (hasC f 2 x n = true) := Lib.hid (by
          have h1 : hasC f 2 x (k + 1) = true := by rw [hasC, ← HE0.out, he2]; simp
          have h2 := hasC_mono (n - (k + 1)) h1
          rwa [show k + 1 + (n - (k + 1)) = n by have := HLT.out; omega] at h2)
        clear he
        go_wp2
        go_ret
        exact ⟨ret_bool HT.out.symm, rfl⟩
      · have he2 : (x0 == x) = false := beq_eq_false_iff_ne.2 he
        have HF1 : Hid (hasC f 2 x (k + 1) = false) := Lib.hid (by rw [hasC, HF.out, ← HE0.out, he2]; rfl)
        clear he
        go_wp2
        go_roundw
        case rel => exact ⟨k + 1, HLT.out, by go_num, HF1, by first | rfl | trivial⟩
        case measure => have := HLT.out; simp [intOf]; omega
    · have hlti : decide ((k : Int) < (n : Int)) = false := decide_eq_false (by omega)
      obtain rfl : k = n := by omega
      clear hlt
      go_wp2
      go_ret
      exact ⟨ret_bool HF.out.symm, rfl⟩
set_option maxRecDepth 20000 in
set_option maxHeartbeats 8000000 in
theorem rpacks_any (n c : Nat) (f : Nat → Nat → Int) (A : Option Addr) (w : World) (hR : RI w A 5 n f) (hn : n ≤ 8) :
    Calls Try.prog 29 #[.slice A n c] w fun e w' => (∃ E : Int, e = .returned (.int .i64 E) ∧ (E = 0 → ∀ i, i < n → (1 ≤ f i 0 ∧ f i 0 ≤ 9999 ∧ 1 ≤ f i 1 ∧ f i 1 ≤ 10000000) ∧ Snow.right (f i 2) (f i 3) (f i 4) = true)) ∧ Below w.heap.size w w' := by
  have HR := Lib.hid hR
  have hni : (n : Int) ≤ 8 := by omega
  clear hR
  go_enter Try.func29, Try.ntmps29
  go_wp2
  go_loopw [3] (fun i wr => ∃ k : Nat, k ≤ n ∧ i = .int .i64 k ∧ Hid (∀ i, i < k → (1 ≤ f i 0 ∧ f i 0 ≤ 9999 ∧ 1 ≤ f i 1 ∧ f i 1 ≤ 10000000) ∧ Snow.right (f i 2) (f i 3) (f i 4) = true) ∧ Hid (Below w.heap.size w wr)) (fun i _ => n - (intOf i).toNat)
  case atStart => exact ⟨0, Nat.zero_le _, rfl, Lib.hid (fun m hm => absurd hm (by omega)), Lib.hid (Below.refl _ _)⟩
  case round =>
    obtain ⟨k, hk, rfl, HALL, HB⟩ := hrel
    by_cases hlt : k < n
    · have hlti : (k : Int) < (n : Int) := by omega
      obtain ⟨b, off, rfl, hbz, hc⟩ := (HR.out.below HB.out).at_ hlt
      have c0 := hc 0 (by omega)
      have c1 := hc 1 (by omega)
      have c2 := hc 2 (by omega)
      have c3 := hc 3 (by omega)
      have c4 := hc 4 (by omega)
      rw [Nat.add_zero] at c0
      obtain ⟨x0, e0⟩ : ∃ x, x = f k 0 := ⟨_, rfl⟩
      rw [← e0] at c0
      obtain ⟨x1, e1⟩ : ∃ x, x = f k 1 := ⟨_, rfl⟩
      rw [← e1] at c1
      obtain ⟨x2, e2⟩ : ∃ x, x = f k 2 := ⟨_, rfl⟩
      rw [← e2] at c2
      obtain ⟨x3, e3⟩ : ∃ x, x = f k 3 := ⟨_, rfl⟩
      rw [← e3] at c3
      obtain ⟨x4, e4⟩ : ∃ x, x = f k 4 := ⟨_, rfl⟩
      rw [← e4] at c4
      have HLT := Lib.hid hlt
      have HE := Lib.hid (And.intro e0 (And.intro e1 (And.intro e2 (And.intro e3 e4))))
      clear hlt e0 e1 e2 e3 e4
      have HSN : Hid (∀ W, Calls Try.prog 61 #[pk x2 x3 x4] W fun e w' => e = .returned (.bool (Snow.right x2 x3 x4)) ∧ W.alloc (.cells #[.int .i64 x2, .int .i64 x3, .int .i64 x4] 55) = w') := Lib.hid fun W => sn_rright_any x2 x3 x4 W
      by_cases q0 : x0 < 1
      · have s0 : decide (x0 < 1) = true := decide_eq_true q0
        clear hc
        go_wp2
        go_ret
        exact ⟨⟨2, rfl, fun h => absurd h (by decide)⟩, HB.out⟩
      have s0 : decide (x0 < 1) = false := decide_eq_false q0
      by_cases q1 : 9999 < x0
      · have s1 : decide (9999 < x0) = true := decide_eq_true q1
        clear hc
        go_wp2
        go_ret
        exact ⟨⟨2, rfl, fun h => absurd h (by decide)⟩, HB.out⟩
      have s1 : decide (9999 < x0) = false := decide_eq_false q1
      by_cases q2 : x1 < 1
      · have s2 : decide (x1 < 1) = true := decide_eq_true q2
        clear hc
        go_wp2
        go_ret
        exact ⟨⟨2, rfl, fun h => absurd h (by decide)⟩, HB.out⟩
      have s2 : decide (x1 < 1) = false := decide_eq_false q2
      by_cases q3 : 10000000 < x1
      · have s3 : decide (10000000 < x1) = true := decide_eq_true q3
        clear hc
        go_wp2
        go_ret
        exact ⟨⟨2, rfl, fun h => absurd h (by decide)⟩, HB.out⟩
      have s3 : decide (10000000 < x1) = false := decide_eq_false q3
      have HQ : Hid (1 ≤ x0 ∧ x0 ≤ 9999 ∧ 1 ≤ x1 ∧ x1 ≤ 10000000) := Lib.hid (by omega)
      clear q0 q1 q2 q3
      cases hs : Snow.right x2 x3 x4 with
      | false =>
        rw [hs] at HSN
        clear hc
        go_wp2_with (go_at_call 61; with_reducible refine (HSN.out _).mono ?_; rintro e1 w1 ⟨rfl, rfl⟩)
        go_ret
        exact ⟨⟨2, rfl, fun h => absurd h (by decide)⟩, HB.out.alloc HB.out.size _⟩
      | true =>
        rw [hs] at HSN
        have HG : Hid (∀ i, i < k + 1 → (1 ≤ f i 0 ∧ f i 0 ≤ 9999 ∧ 1 ≤ f i 1 ∧ f i 1 ≤ 10000000) ∧ Snow.right (f i 2) (f i 3) (f i 4) = true) := Lib.hid fun i hi => by
          obtain ⟨e0, e1, e2, e3, e4⟩ := HE.out
          by_cases e : i = k
          · subst e; rw [← e0, ← e1, ← e2, ← e3, ← e4]; exact ⟨HQ.out, hs⟩
          · exact HALL.out i (by omega)
        clear hs HALL
        have HB1 := Lib.hid (HB.out.alloc HB.out.size (.cells #[.int .i64 x2, .int .i64 x3, .int .i64 x4] 55))
        by_cases hm0 : k = 0
        · have m0 : decide ((0 : Int) < (k : Int)) = false := decide_eq_false (by omega)
          have m1 : decide (0 < k) = false := decide_eq_false (by omega)
          clear hc hm0
          go_wp2_with (go_at_call 61; with_reducible refine (HSN.out _).mono ?_; rintro e1 w1 ⟨rfl, rfl⟩)
          go_quiet (fail)
          go_wp2
          go_roundw
          case rel => exact ⟨_, HLT.out, by go_num, HG, Lib.hid (thru HB1.out (Joins.below_draws _ _ _) HB1.out.size)⟩
          case measure => have := HLT.out; simp [intOf]; omega
        have m0 : decide ((0 : Int) < (k : Int)) = true := decide_eq_true (by omega)
        have m1 : decide (0 < k) = true := decide_eq_true (by omega)
        obtain ⟨p, hp⟩ : ∃ p, p + 1 = k := ⟨k - 1, by omega⟩
        obtain ⟨b', off', ee, hbl', hd⟩ := (HR.out.below HB.out).at_ (i := p) (by have := HLT.out; omega)
        injection ee with ee
        injection ee with ee1 ee2
        subst ee1 ee2
        have d0 := hd 0 (by omega)
        rw [Nat.add_zero] at d0
        obtain ⟨z, hz'⟩ : ∃ x, x = f p 0 := ⟨_, rfl⟩
        rw [← hz'] at d0
        have hi : ((k : Int) - 1).toNat = p := by omega
        have hi2 : ((k : Int) - 1) = p := by omega
        have hpl : p < n := by have := HLT.out; omega
        have hpi : (p : Int) < (n : Int) := by omega
        clear hc hd hz' hm0
        by_cases hzy : x0 ≤ z
        · have z0 : decide (x0 ≤ z) = true := decide_eq_true hzy
          clear hzy
          go_wp2_with (go_at_call 61; with_reducible refine (HSN.out _).mono ?_; rintro e1 w1 ⟨rfl, rfl⟩)
          go_quiet (fail)
          go_wp2
          go_ret
          exact ⟨⟨11, rfl, fun h => absurd h (by decide)⟩, thru HB1.out (Joins.below_draws _ _ _) HB1.out.size⟩
        have z0 : decide (x0 ≤ z) = false := decide_eq_false hzy
        clear hzy
        go_wp2_with (go_at_call 61; with_reducible refine (HSN.out _).mono ?_; rintro e1 w1 ⟨rfl, rfl⟩)
        go_quiet (fail)
        go_wp2
        go_roundw
        case rel => exact ⟨_, HLT.out, by go_num, HG, Lib.hid (thru HB1.out (Joins.below_draws _ _ _) HB1.out.size)⟩
        case measure => have := HLT.out; simp [intOf]; omega
    · have hlti : decide ((k : Int) < (n : Int)) = false := decide_eq_false (by omega)
      obtain rfl : k = n := by omega
      clear hlt
      go_wp2
      go_ret
      exact ⟨⟨0, rfl, fun _ => HALL.out⟩, HB.out⟩
end Go.Proofs.Ytljhocdbfbjpiaa
namespace Go.Proofs.Ytljhocdbfbjpiaa
open Go.RowKit

/-- What the check of the parts tells. -/
structure PartsOK (S : Sys) : Prop where
  po : PondOK S.fp S.np
  pu : ∀ i, i < S.nu → 1 ≤ S.fu i 1 ∧ S.fu i 1 ≤ 1000000 ∧ 1 ≤ S.fu i 2 ∧ S.fu i 2 ≤ 100000000
  ki : ∀ i, i < S.nk → (0 ≤ S.K.pw i ∧ S.K.pw i ≤ 1000000) ∧ YOK (S.K.p i)
  gu : ∀ i, i < S.ng → 1 ≤ S.fg i 2 ∧ S.fg i 2 ≤ 9999
def PartsPost (S : Sys) (w : World) (e : Ending) (w' : World) : Prop :=
  (∃ E : Int, e = .returned (.int .i64 E) ∧ (E = 0 → PartsOK S)) ∧ Below w.heap.size w w'
theorem PartsPost.bad {S : Sys} {w w' : World} {E : Int} (h : E ≠ 0) (hb : Below w.heap.size w w') : PartsPost S w (.returned (.int .i64 E)) w' := ⟨⟨E, rfl, fun h' => absurd h' h⟩, hb⟩
set_option maxRecDepth 40000 in
set_option maxHeartbeats 8000000 in
theorem rparts_any (S : Sys) (w : World) (hM : SysM w S) (hZ : SysZ S) :
    Calls Try.prog 28 #[sysS S] w (PartsPost S w) := by
  have HM := Lib.hid hM
  have HZ := Lib.hid hZ
  have hb0 : Below w.heap.size w (w.alloc (.cells #[.slice S.po S.np S.cp, .slice S.pu S.nu S.cu, .slice S.pi S.ni S.ci, .slice S.ki S.nk S.ck, .slice S.gu S.ng S.cg, .slice S.pa S.na S.ca, .int .i64 S.p, .int .i64 S.l, .int .i64 S.t, .int .i64 S.wa, .int .i64 S.lo, .int .i64 S.en, .int .i64 S.inn] 41)) := Joins.below_alloc1 _ _
  have hx0 := BoxAt.mk0 w (.slice S.po S.np S.cp) (.slice S.pu S.nu S.cu) (.slice S.pi S.ni S.ci) (.slice S.ki S.nk S.ck) (.slice S.gu S.ng S.cg) (.slice S.pa S.na S.ca) S.p S.l S.t S.wa S.lo S.en S.inn
  have HC := Lib.hid (rpond_any S.np S.cp S.fp S.po _ (hM.below hb0).po hZ.np)
  have HX0 := Lib.hid hx0
  have HB0 := Lib.hid hb0
  clear hM hZ hb0 hx0
  go_enter Try.func28, Try.ntmps28
  go_wp2_with fail
  refine HC.out.mono ?_
  rintro e w1 ⟨⟨E, rfl, hok⟩, hb⟩
  have HX1 := Lib.hid (HX0.out.below hb)
  have HB1 := Lib.hid (thru HB0.out hb HB0.out.size)
  have HOK := Lib.hid hok
  clear hb hok HC HX0
  by_cases hE : E = 0
  rotate_left
  · have hE1 : (E == 0) = false := beq_eq_false_iff_ne.2 hE
    have hE2 : (E != 0) = true := by simp [hE]
    have HE := Lib.hid hE
    clear hE
    go_wp2
    go_ret
    exact PartsPost.bad HE.out HB1.out
  subst hE
  have H1 := Lib.hid (HOK.out rfl)
  clear HOK
  have b1 := HX1.out.c1
  have HC := Lib.hid (rpump_any S.nu S.cu S.fu S.pu _ (HM.out.below HB1.out).pu HZ.out.nu)
  go_wp2_with fail
  refine HC.out.mono ?_
  rintro e w2 ⟨⟨E, rfl, hok⟩, hb⟩
  have HX2 := Lib.hid (HX1.out.below hb)
  have HB2 := Lib.hid (thru HB1.out hb HB1.out.size)
  have HOK := Lib.hid hok
  clear hb hok HC HX1
  by_cases hE : E = 0
  rotate_left
  · have hE1 : (E == 0) = false := beq_eq_false_iff_ne.2 hE
    have hE2 : (E != 0) = true := by simp [hE]
    have HE := Lib.hid hE
    clear hE
    go_wp2
    go_ret
    exact PartsPost.bad HE.out HB2.out
  subst hE
  have H2 := Lib.hid (HOK.out rfl)
  clear HOK
  clear b1
  have b2 := HX2.out.c2
  have HC := Lib.hid (rpipe_any S.ni S.ci S.fi S.pi _ (HM.out.below HB2.out).pi HZ.out.ni)
  go_wp2_with fail
  refine HC.out.mono ?_
  rintro e w3 ⟨⟨E, rfl, hok⟩, hb⟩
  have HX3 := Lib.hid (HX2.out.below hb)
  have HB3 := Lib.hid (thru HB2.out hb HB2.out.size)
  have HOK := Lib.hid hok
  clear hb hok HC HX2
  by_cases hE : E = 0
  rotate_left
  · have hE1 : (E == 0) = false := beq_eq_false_iff_ne.2 hE
    have hE2 : (E != 0) = true := by simp [hE]
    have HE := Lib.hid hE
    clear hE
    go_wp2
    go_ret
    exact PartsPost.bad HE.out HB3.out
  subst hE
  have H3 := Lib.hid (HOK.out rfl)
  clear HOK
  clear b2
  have b3 := HX3.out.c3
  have b4 := HX3.out.c4
  have HC := Lib.hid (rguns_any S.nk S.ng S.ck S.cg S.K S.fg S.ki S.gu _ (HM.out.below HB3.out).ki (HM.out.below HB3.out).gu HZ.out.nk HZ.out.ng HZ.out.kp)
  go_wp2_with fail
  refine HC.out.mono ?_
  rintro e w4 ⟨⟨E, rfl, hok⟩, hb⟩
  have HB4 := Lib.hid (thru HB3.out hb HB3.out.size)
  have HOK := Lib.hid hok
  clear hb hok HC HX3
  go_wp2
  go_ret
  exact ⟨⟨E, rfl, fun h => ⟨H1.out, H2.out, (HOK.out h).1, (HOK.out h).2⟩⟩, HB4.out⟩
/-- What the check of a system tells. -/
structure RightOK (S : Sys) : Prop where
  pt : PartsOK S
  pa : PackOK S
  sn : ∀ i, i < S.na → Snow.right (S.fa i 2) (S.fa i 3) (S.fa i 4) = true
  nu : NumOK S
def RightPost (S : Sys) (w : World) (e : Ending) (w' : World) : Prop :=
  (∃ E : Int, e = .returned (.int .i64 E) ∧ (E = 0 → RightOK S)) ∧ Below w.heap.size w w'
theorem RightPost.bad {S : Sys} {w w' : World} {E : Int} (h : E ≠ 0) (hb : Below w.heap.size w w') : RightPost S w (.returned (.int .i64 E)) w' := ⟨⟨E, rfl, fun h' => absurd h' h⟩, hb⟩
set_option maxRecDepth 40000 in
set_option maxHeartbeats 16000000 in
theorem rsys_any (S : Sys) (w : World) (hM : SysM w S) (hZ : SysZ S) :
    Calls Try.prog 12 #[sysS S] w (RightPost S w) := by
  have HM := Lib.hid hM
  have HZ := Lib.hid hZ
  have hb0 : Below w.heap.size w (w.alloc (.cells #[.slice S.po S.np S.cp, .slice S.pu S.nu S.cu, .slice S.pi S.ni S.ci, .slice S.ki S.nk S.ck, .slice S.gu S.ng S.cg, .slice S.pa S.na S.ca, .int .i64 S.p, .int .i64 S.l, .int .i64 S.t, .int .i64 S.wa, .int .i64 S.lo, .int .i64 S.en, .int .i64 S.inn] 41)) := Joins.below_alloc1 _ _
  have hx0 := BoxAt.mk0 w (.slice S.po S.np S.cp) (.slice S.pu S.nu S.cu) (.slice S.pi S.ni S.ci) (.slice S.ki S.nk S.ck) (.slice S.gu S.ng S.cg) (.slice S.pa S.na S.ca) S.p S.l S.t S.wa S.lo S.en S.inn
  have HC := Lib.hid (rparts_any S _ (hM.below hb0) hZ)
  have HX0 := Lib.hid hx0
  have HB0 := Lib.hid hb0
  clear hM hZ hb0 hx0
  go_enter Try.func12, Try.ntmps12
  go_wp2_with fail
  refine HC.out.mono ?_
  rintro e w1 ⟨⟨E, rfl, hok⟩, hb⟩
  have HX1 := Lib.hid (HX0.out.below hb)
  have HB1 := Lib.hid (thru HB0.out hb HB0.out.size)
  have HOK := Lib.hid hok
  clear hb hok HC HX0
  by_cases hE : E = 0
  rotate_left
  · have hE1 : (E == 0) = false := beq_eq_false_iff_ne.2 hE
    have hE2 : (E != 0) = true := by simp [hE]
    have HE := Lib.hid hE
    clear hE
    go_wp2
    go_ret
    exact RightPost.bad HE.out HB1.out
  subst hE
  have H1 := Lib.hid (HOK.out rfl)
  clear HOK
  have b5 := HX1.out.c5
  have hna : decide ((64 : Int) < (S.na : Int)) = false := decide_eq_false (by have := HZ.out.na; omega)
  have HC := Lib.hid (rpacks_any S.na S.ca S.fa S.pa _ (HM.out.below HB1.out).pa HZ.out.na)
  go_wp2_with fail
  refine HC.out.mono ?_
  rintro e w2 ⟨⟨E, rfl, hok⟩, hb⟩
  have HX2 := Lib.hid (HX1.out.below hb)
  have HB2 := Lib.hid (thru HB1.out hb HB1.out.size)
  have HOK := Lib.hid hok
  clear hb hok HC HX1
  by_cases hE : E = 0
  rotate_left
  · have hE1 : (E == 0) = false := beq_eq_false_iff_ne.2 hE
    have hE2 : (E != 0) = true := by simp [hE]
    have HE := Lib.hid hE
    clear hE
    go_wp2
    go_ret
    exact RightPost.bad HE.out HB2.out
  subst hE
  have H2 := Lib.hid (HOK.out rfl)
  clear HOK
  have HNG : Hid (S.ng ≤ 8) := Lib.hid HZ.out.ng
  clear b5 hna
  go_wp2
  go_loopw [5] (fun i wr => ∃ k : Nat, k ≤ S.ng ∧ i = .int .i64 k ∧ Hid (BoxAt wr w.heap.size (.slice S.po S.np S.cp) (.slice S.pu S.nu S.cu) (.slice S.pi S.ni S.ci) (.slice S.ki S.nk S.ck) (.slice S.gu S.ng S.cg) (.slice S.pa S.na S.ca) S.p S.l S.t S.wa S.lo S.en S.inn) ∧ Hid (Below w.heap.size w wr)) (fun i _ => S.ng - (intOf i).toNat)
  case atStart => exact ⟨0, Nat.zero_le _, rfl, HX2, HB2⟩
  case round =>
    clear HX2 HB2 HB1 HB0
    obtain ⟨k, hk, rfl, HX, HB⟩ := hrel
    have b4 := HX.out.c4
    have hng : (S.ng : Int) ≤ 8 := by have := HNG.out; omega
    by_cases hlt : k < S.ng
    · have hlti : (k : Int) < (S.ng : Int) := by omega
      have b5 := HX.out.c5
      have b2 := HX.out.c2
      obtain ⟨b, off, hgu, hbz, hc⟩ := (HM.out.below HB.out).gu.at_ hlt
      have c1 := hc 1 (by omega)
      have c2 := hc 2 (by omega)
      obtain ⟨x1, e1⟩ : ∃ x, x = S.fg k 1 := ⟨_, rfl⟩
      rw [← e1] at c1
      obtain ⟨x2, e2⟩ : ∃ x, x = S.fg k 2 := ⟨_, rfl⟩
      rw [← e2] at c2
      rw [hgu] at b4
      have HLT := Lib.hid hlt
      obtain ⟨P, hP⟩ : ∃ P, P = hasC S.fa 0 x2 S.na := ⟨_, rfl⟩
      obtain ⟨Q, hQ⟩ : ∃ P, P = hasC S.fi 2 x1 S.ni := ⟨_, rfl⟩
      have HPK : Hid (∀ n, Calls Try.prog 30 #[.slice S.pa S.na S.ca, .int .i64 x2] (wr.drewN n) fun e w' => e = .returned (.bool P) ∧ wr.drewN n = w') := Lib.hid (fun n => by
        rw [hP]
        exact r44pack_any S.na S.ca S.fa x2 S.pa (wr.drewN n) ((HM.out.below HB.out).below (Joins.below_draws _ _ _)).pa HZ.out.na)
      have HND : Hid (∀ n, Calls Try.prog 31 #[.slice S.pi S.ni S.ci, .int .i64 x1] (wr.drewN n) fun e w' => e = .returned (.bool Q) ∧ wr.drewN n = w') := Lib.hid (fun n => by
        rw [hQ]
        exact r44node_any S.ni S.ci S.fi x1 S.pi (wr.drewN n) ((HM.out.below HB.out).below (Joins.below_draws _ _ _)).pi HZ.out.ni)
      clear hP hQ e1 e2 hc hlt hgu
      cases P with
      | false =>
        go_wp2_with fail
        go_quiet (first | (go_at_call 30; with_reducible exact quiet_left (HPK.out _)) | (go_at_call 31; with_reducible exact quiet_left (HND.out _)))
        go_wp2
        go_ret
        exact RightPost.bad (by omega) (thru HB.out (Joins.below_draws _ _ _) HB.out.size)
      | true =>
        cases Q with
        | false =>
          go_wp2_with fail
          go_quiet (first | (go_at_call 30; with_reducible exact quiet_left (HPK.out _)) | (go_at_call 31; with_reducible exact quiet_left (HND.out _)))
          go_wp2
          go_ret
          exact RightPost.bad (by omega) (thru HB.out (Joins.below_draws _ _ _) HB.out.size)
        | true =>
          go_wp2_with fail
          go_quiet (first | (go_at_call 30; with_reducible exact quiet_left (HPK.out _)) | (go_at_call 31; with_reducible exact quiet_left (HND.out _)))
          go_wp2
          go_roundw
          case rel => exact ⟨k + 1, HLT.out, by go_num, Lib.hid (HX.out.below (Joins.below_draws _ _ _)), Lib.hid (thru HB.out (Joins.below_draws _ _ _) HB.out.size)⟩
          case measure => have := HLT.out; simp [intOf]; omega
    · have hlti : decide ((k : Int) < (S.ng : Int)) = false := decide_eq_false (by omega)
      obtain hkn : k = S.ng := by omega
      clear hlt hk
      have d6 := HX.out.c6
      have d7 := HX.out.c7
      have d8 := HX.out.c8
      have d9 := HX.out.c9
      have d10 := HX.out.c10
      have d11 := HX.out.c11
      have d12 := HX.out.c12
      rcases rwithin_two S.p 10000000 with ⟨h, h6⟩ | h
      rotate_left
      · have H6 := Lib.hid h
        clear h
        go_wp2_with (first | (go_at_call 32; with_reducible refine (H6.out _).mono ?_; rintro e1 w1 ⟨rfl, rfl⟩))
        go_ret
        exact RightPost.bad (by omega) HB.out
      have H6 := Lib.hid h
      have N6 := Lib.hid h6
      clear h h6
      rcases rwithin_two S.l 1000000000 with ⟨h, h7⟩ | h
      rotate_left
      · have H7 := Lib.hid h
        clear h
        go_wp2_with (first | (go_at_call 32; with_reducible refine (H6.out _).mono ?_; rintro e1 w1 ⟨rfl, rfl⟩) | (go_at_call 32; with_reducible refine (H7.out _).mono ?_; rintro e1 w1 ⟨rfl, rfl⟩))
        go_ret
        exact RightPost.bad (by omega) HB.out
      have H7 := Lib.hid h
      have N7 := Lib.hid h7
      clear h h7
      rcases rwithin_two S.t 20000000 with ⟨h, h8⟩ | h
      rotate_left
      · have H8 := Lib.hid h
        clear h
        go_wp2_with (first | (go_at_call 32; with_reducible refine (H6.out _).mono ?_; rintro e1 w1 ⟨rfl, rfl⟩) | (go_at_call 32; with_reducible refine (H7.out _).mono ?_; rintro e1 w1 ⟨rfl, rfl⟩) | (go_at_call 32; with_reducible refine (H8.out _).mono ?_; rintro e1 w1 ⟨rfl, rfl⟩))
        go_ret
        exact RightPost.bad (by omega) HB.out
      have H8 := Lib.hid h
      have N8 := Lib.hid h8
      clear h h8
      rcases rwithin_two S.wa 1125899906842624 with ⟨h, h9⟩ | h
      rotate_left
      · have H9 := Lib.hid h
        clear h
        go_wp2_with (first | (go_at_call 32; with_reducible refine (H6.out _).mono ?_; rintro e1 w1 ⟨rfl, rfl⟩) | (go_at_call 32; with_reducible refine (H7.out _).mono ?_; rintro e1 w1 ⟨rfl, rfl⟩) | (go_at_call 32; with_reducible refine (H8.out _).mono ?_; rintro e1 w1 ⟨rfl, rfl⟩) | (go_at_call 32; with_reducible refine (H9.out _).mono ?_; rintro e1 w1 ⟨rfl, rfl⟩))
        go_ret
        exact RightPost.bad (by omega) HB.out
      have H9 := Lib.hid h
      have N9 := Lib.hid h9
      clear h h9
      rcases rwithin_two S.lo 1125899906842624 with ⟨h, h10⟩ | h
      rotate_left
      · have H10 := Lib.hid h
        clear h
        go_wp2_with (first | (go_at_call 32; with_reducible refine (H6.out _).mono ?_; rintro e1 w1 ⟨rfl, rfl⟩) | (go_at_call 32; with_reducible refine (H7.out _).mono ?_; rintro e1 w1 ⟨rfl, rfl⟩) | (go_at_call 32; with_reducible refine (H8.out _).mono ?_; rintro e1 w1 ⟨rfl, rfl⟩) | (go_at_call 32; with_reducible refine (H9.out _).mono ?_; rintro e1 w1 ⟨rfl, rfl⟩) | (go_at_call 32; with_reducible refine (H10.out _).mono ?_; rintro e1 w1 ⟨rfl, rfl⟩))
        go_ret
        exact RightPost.bad (by omega) HB.out
      have H10 := Lib.hid h
      have N10 := Lib.hid h10
      clear h h10
      rcases rwithin_two S.en 1125899906842624 with ⟨h, h11⟩ | h
      rotate_left
      · have H11 := Lib.hid h
        clear h
        go_wp2_with (first | (go_at_call 32; with_reducible refine (H6.out _).mono ?_; rintro e1 w1 ⟨rfl, rfl⟩) | (go_at_call 32; with_reducible refine (H7.out _).mono ?_; rintro e1 w1 ⟨rfl, rfl⟩) | (go_at_call 32; with_reducible refine (H8.out _).mono ?_; rintro e1 w1 ⟨rfl, rfl⟩) | (go_at_call 32; with_reducible refine (H9.out _).mono ?_; rintro e1 w1 ⟨rfl, rfl⟩) | (go_at_call 32; with_reducible refine (H10.out _).mono ?_; rintro e1 w1 ⟨rfl, rfl⟩) | (go_at_call 32; with_reducible refine (H11.out _).mono ?_; rintro e1 w1 ⟨rfl, rfl⟩))
        go_ret
        exact RightPost.bad (by omega) HB.out
      have H11 := Lib.hid h
      have N11 := Lib.hid h11
      clear h h11
      rcases rwithin_two S.inn 1125899906842624 with ⟨h, h12⟩ | h
      rotate_left
      · have H12 := Lib.hid h
        clear h
        go_wp2_with (first | (go_at_call 32; with_reducible refine (H6.out _).mono ?_; rintro e1 w1 ⟨rfl, rfl⟩) | (go_at_call 32; with_reducible refine (H7.out _).mono ?_; rintro e1 w1 ⟨rfl, rfl⟩) | (go_at_call 32; with_reducible refine (H8.out _).mono ?_; rintro e1 w1 ⟨rfl, rfl⟩) | (go_at_call 32; with_reducible refine (H9.out _).mono ?_; rintro e1 w1 ⟨rfl, rfl⟩) | (go_at_call 32; with_reducible refine (H10.out _).mono ?_; rintro e1 w1 ⟨rfl, rfl⟩) | (go_at_call 32; with_reducible refine (H11.out _).mono ?_; rintro e1 w1 ⟨rfl, rfl⟩) | (go_at_call 32; with_reducible refine (H12.out _).mono ?_; rintro e1 w1 ⟨rfl, rfl⟩))
        go_ret
        exact RightPost.bad (by omega) HB.out
      have H12 := Lib.hid h
      have N12 := Lib.hid h12
      clear h h12
      go_wp2_with (first | (go_at_call 32; with_reducible refine (H6.out _).mono ?_; rintro e1 w1 ⟨rfl, rfl⟩) | (go_at_call 32; with_reducible refine (H7.out _).mono ?_; rintro e1 w1 ⟨rfl, rfl⟩) | (go_at_call 32; with_reducible refine (H8.out _).mono ?_; rintro e1 w1 ⟨rfl, rfl⟩) | (go_at_call 32; with_reducible refine (H9.out _).mono ?_; rintro e1 w1 ⟨rfl, rfl⟩) | (go_at_call 32; with_reducible refine (H10.out _).mono ?_; rintro e1 w1 ⟨rfl, rfl⟩) | (go_at_call 32; with_reducible refine (H11.out _).mono ?_; rintro e1 w1 ⟨rfl, rfl⟩) | (go_at_call 32; with_reducible refine (H12.out _).mono ?_; rintro e1 w1 ⟨rfl, rfl⟩))
      go_ret
      exact ⟨⟨0, rfl, fun _ => ⟨H1.out, fun i hi => (H2.out i hi).1, fun i hi => (H2.out i hi).2, ⟨N6.out, N7.out, N8.out, N9.out, N10.out, N11.out, N12.out⟩⟩⟩, HB.out⟩
end Go.Proofs.Ytljhocdbfbjpiaa
