/-
  The walk of the law on more water, more power and one gun less.
-/
import Derived.Test.YtnblfhoogcdcfaaPlanLawC
import Derived.Test.YtnblfhoogcdcfaaPlanMore
import Derived.Test.YtnblfhoogcdcfaaPlanCells
import Derived.Deep.RegionLaw
import Derived.Test.YtnblfhoogcdcfaaBelowAid
namespace Go.Proofs.Ytnblfhoogcdcfaa
open Go.RowKit

theorem gun_info : (Try.prog.info? 41).map (fun i => (i.zero, i.size, i.bytes)) = some (some (.agg #[.int .i64 0, .int .i64 0, .int .i64 0, .int .i64 0]), 4, 32) := by kernel_rfl
theorem hour_info : (Try.prog.info? 38).map (fun i => (i.zero, i.size, i.bytes)) = some (some (.agg #[.int .i64 0, .int .i64 0]), 2, 16) := by kernel_rfl
theorem great_le {gs gs' : List Plan.Gun} {hs hs' : List Plan.Hour} {l l' : Int} (h : Plan.rightE gs hs = 0) (h' : Plan.rightE gs' hs' = 0) (h0 : 0 ≤ l) (h0' : 0 ≤ l') (hg : Plan.gr gs hs l ≤ Plan.gr gs' hs' l') : Plan.greatE gs hs l ≤ Plan.greatE gs' hs' l' := by
  rw [Plan.great_gr (Plan.acc_of h) h0, Plan.great_gr (Plan.acc_of h') h0']; exact hg
theorem more_i {n : Nat} {at_ : Int} (hn : 0 < n) (h0 : 0 ≤ at_) : ∃ i : Nat, i < n ∧ at_.tmod (n : Int) = (i : Int) := by
  obtain ⟨a, rfl⟩ := Int.eq_ofNat_of_zero_le h0
  exact ⟨a % n, Nat.mod_lt _ hn, by rw [Int.tmod_eq_emod_of_nonneg (by omega)]; rfl⟩

set_option maxRecDepth 4000 in
set_option maxHeartbeats 8000000 in
theorem lawMore_ok (gs : List Plan.Gun) (hs : List Plan.Hour) (water bY at_ : Int) (A : Option Addr) (c : Nat) (B : Option Addr) (d : Nat) (w : World) (hG : RdG w A gs) (hH : RdH w B hs) (hr : Plan.rightE gs hs = 0) (hc : gs.length ≤ c) (h0 : 0 ≤ water) (h1 : water ≤ 1125899906842624) (hy0 : 0 ≤ bY) (hy1 : bY ≤ 65535) (ha0 : 0 ≤ at_) (ha1 : at_ ≤ 255) :
    Calls Try.prog 8 #[.slice A gs.length c, .slice B hs.length d, .int .i64 water, .int .u16 bY, .int .u8 at_] w fun e w' => e = .returned (.bool true) ∧ Below w.heap.size w w' := by
  have ha := Plan.acc_of hr
  have h5i : decide ((5 : Int) < (gs.length : Int)) = false := decide_eq_false (by have := ha.gl; omega)
  have h3i : decide ((3 : Int) < (hs.length : Int)) = false := decide_eq_false (by have := ha.hl; omega)
  have hw0 : decide (water < 0) = false := decide_eq_false (by omega)
  have hw1 : decide (1125899906842624 < water) = false := decide_eq_false (by omega)
  have hg5 := ha.gl
  have hh3 := ha.hl
  obtain ⟨N, hN⟩ : ∃ N, N = Plan.greatE gs hs water := ⟨_, rfl⟩
  obtain ⟨N2, hN2⟩ : ∃ N, N = Plan.greatE gs hs (water + bY) := ⟨_, rfl⟩
  have hle2 : N ≤ N2 := by rw [hN, hN2]; exact great_le hr hr h0 (by omega) (Plan.gr_water ha h0 (by omega))
  have hle2i : decide (N2 < N) = false := decide_eq_false (by omega)
  have HG := Lib.hid hG
  have HH := Lib.hid hH
  have HRT := Lib.hid hr
  have HA := Lib.hid ha
  have HC := Lib.hid hc
  have HN := Lib.hid hN
  have HN2 := Lib.hid hN2
  have HW := Lib.hid (And.intro h0 h1)
  have HY := Lib.hid (And.intro hy0 hy1)
  have HT := Lib.hid (And.intro ha0 ha1)
  have e1 : IntKind.i64.wrap bY = bY := IntWalk.i64_in _ (by omega)
  have e2 : IntKind.i64.wrap (water + bY) = water + bY := IntWalk.i64_in _ (by omega)
  have e3 : IntKind.i64.wrap at_ = at_ := IntWalk.i64_in _ (by omega)
  clear hG hH hr ha hc hN hN2 hle2 h0 h1 hy0 hy1 ha0 ha1
  have HEND : Hid True := Lib.hid trivial
  by_cases hhz : hs.length = 0
  · skip
    have hh0 : decide ((0 : Int) < (hs.length : Int)) = false := decide_eq_false (by omega)
    have hh0n : decide (0 < hs.length) = false := decide_eq_false (by omega)
    clear hhz
    go_enter Try.func8, Try.ntmps8
    go_wp2_with fail
    refine (alive_any _).mono ?_
    rintro e w1 ⟨rfl, hb1⟩
    have HB1 := Lib.hid hb1
    clear hb1
    go_wp2_with fail
    refine (pright_any gs hs A B c d _ (HG.out.below HB1.out) (HH.out.below HB1.out)).mono ?_
    rw [HRT.out]
    rintro e w2 ⟨rfl, hb2⟩
    have HB2 := Lib.hid (thru HB1.out hb2 HB1.out.size)
    clear hb2
    go_wp2_with fail
    refine (pgreat_any gs hs water A B c d _ HRT.out (by have := HW.out; omega) (HG.out.below HB2.out) (HH.out.below HB2.out)).mono ?_
    rw [← HN.out]
    rintro e w3 ⟨rfl, hb3⟩
    have HB3 := Lib.hid (thru HB2.out hb3 HB2.out.size)
    clear hb3
    go_wp2_with fail
    refine (pgreat_any gs hs (water + bY) A B c d _ HRT.out (by have := HW.out; have := HY.out; omega) (HG.out.below HB3.out) (HH.out.below HB3.out)).mono ?_
    rw [← HN2.out]
    rintro e w4 ⟨rfl, hb4⟩
    have HB4 := Lib.hid (thru HB3.out hb4 HB3.out.size)
    clear hb4
    have HBQ := HB4
    clear HB4
    by_cases hgz : gs.length = 0
    · have hg0 : ((gs.length : Int) == 0) = true := beq_iff_eq.2 (by omega)
      have hNZ : (N == 0) = true := beq_iff_eq.2 (by
        have h1 := HN.out
        have h2 := HA.out
        have h3 : gs = [] := List.eq_nil_of_length_eq_zero hgz
        rw [Plan.great_gr h2 HW.out.1] at h1
        rw [h3] at h1 h2
        rw [h1]; exact Plan.gr_none hs h2 HW.out.1)
      clear hgz
      go_wp2
      go_ret
      exact ⟨rfl, HBQ.out⟩
    · have hg0 : ((gs.length : Int) == 0) = false := beq_eq_false_iff_ne.2 (by omega)
      obtain ⟨j, hjl, hjm⟩ := more_i (n := gs.length) (by omega) HT.out.1
      obtain ⟨gb, go, rfl, gbz, -⟩ := HG.out (by omega)
      have hrf : Plan.rightE (gs.eraseIdx j) hs = 0 := Plan.right_less HRT.out j
      obtain ⟨N4, hN4⟩ : ∃ N, N = Plan.greatE (gs.eraseIdx j) hs water := ⟨_, rfl⟩
      have hle4 : N4 ≤ N := by rw [HN.out, hN4]; exact great_le hrf HRT.out HW.out.1 HW.out.1 (Plan.gr_less hjl (Plan.acc_of hrf) HW.out.1)
      have hle4i : decide (N4 ≤ N) = true := decide_eq_true hle4
      obtain ⟨g0i, hi0, hz0, hz1, hz2⟩ := info_parts gun_info
      have HGI := Lib.hid (And.intro hi0 (And.intro hz0 (And.intro hz1 hz2)))
      have hel : (gs.eraseIdx j).length + 1 = gs.length := by rw [List.length_eraseIdx, if_pos hjl]; omega
      have hec : gunCells (gs.take j) ++ gunCells (gs.drop (j + 1)) = gunCells (gs.eraseIdx j) := by rw [List.eraseIdx_eq_take_drop_succ, gunCells_app]
      have hjc : j + 1 ≤ c := by have := HC.out; omega
      have hjci : (j : Int) + 1 ≤ (c : Int) := by omega
      have hjcj : (j : Int) ≤ (c : Int) := by omega
      have hjlj : (j : Int) + 1 ≤ (gs.length : Int) := by omega
      have e7 : IntKind.i64.wrap ((j : Int) + 1) = (j : Int) + 1 := IntWalk.i64_in _ (by omega)
      have hnn : (0 : Int) ≤ (j : Int) + 1 := by omega
      obtain ⟨AD, hAD, hNW⟩ : ∃ AD : Addr, (if c = j + 1 then some (⟨gb, go, none⟩ : Addr) else some ⟨gb, go + (j + 1) * 4, none⟩) = some AD ∧ ∀ W, Below w.heap.size w W → ∀ k u, (gunCells (gs.drop (j + 1)))[k]? = some u → W.cell? (AD.add k) = some u := by
        by_cases hce : c = j + 1
        · refine ⟨⟨gb, go, none⟩, by rw [if_pos hce], fun W _ k u hu => ?_⟩
          have hd : gs.drop (j + 1) = [] := List.drop_eq_nil_of_le (by have := HC.out; omega)
          rw [hd] at hu
          simp [gunCells] at hu
        · exact ⟨⟨gb, go + (j + 1) * 4, none⟩, by rw [if_neg hce], fun W hb => RdG.news ((HG.out.below hb).drop (j + 1))⟩
      have HNW := Lib.hid hNW
      have HRF := Lib.hid hrf
      have HLEN : Hid (j + (gs.length - (j + 1)) = (gs.eraseIdx j).length) := Lib.hid (by omega)
      have HN4 := Lib.hid hN4
      have HJL := Lib.hid hjl
      have HEL := Lib.hid hel
      have HEC := Lib.hid hec
      have HLE4 := Lib.hid hle4
      have HGZ := Lib.hid hgz
      have HNEW4 := Lib.hid (HG.out.below HBQ.out)
      clear hi0 hz0 hz1 hz2 hrf hN4 hel hec hle4 hgz hjl hNW
      go_upto_region 17 with fail
      go_region_law (first
        | (refine step_append_any _ rfl (.tmp 93) (.tmp 96) 22 rfl (w4.heap.size) 41 g0i _ 4 32 Try.underlying22 HGI.out.1 HGI.out.2.1 HGI.out.2.2.1 HGI.out.2.2.2 rfl (by omega) (.slice (some ⟨w4.heap.size, 0, none⟩) 0 0) 0 [] rfl (by first | exact World.ownsRow_made _ _ _ (Nat.le_refl _) (by simp [maxLen]) rfl | exact owns_below (World.ownsRow_made w4 _ _ (Nat.le_refl _) (by simp [maxLen]) rfl) (below_drew (Below.refl _ _))) ⟨gb, go, none⟩ j c (gunCells (gs.take j)) rfl (by rw [gunCells_len, List.length_take]; have := HJL.out; omega) (RdG.news ((HNEW4.out.take j).below (by ((repeat (first | refine below_drewN ?_ _ | refine below_drew ?_)); go_grown)))) (gunCells_one _) (by simp only [maxLen]; omega) (by omega) (by simp) ?_; intro A6 c6 w7 hown7 hgrow7; rw [Nat.zero_add] at hown7 ⊢; have HB7 : Hid (Below w.heap.size w w7) := Lib.hid (Below.grown (by have := HBQ.out.size; first | exact HBQ.out.alloc HBQ.out.size _ | exact (below_drew HBQ.out).alloc (by simp; omega) _ | exact below_drew (HBQ.out.alloc HBQ.out.size _)) hgrow7 (by have := HBQ.out.size; simp; omega) (fun k hk => by have := HBQ.out.size; simp [Value.ownBlock] at hk; omega)); have HB7z : Hid (w4.heap.size ≤ w7.heap.size) := Lib.hid (by have h := hgrow7.size; simp at h; omega); have HOWN7 := Lib.hid hown7; clear hown7 hgrow7)
        | (refine step_append_any _ rfl (.tmp 97) (.tmp 101) 22 rfl (w4.heap.size) 41 g0i _ 4 32 Try.underlying22 HGI.out.1 HGI.out.2.1 HGI.out.2.2.1 HGI.out.2.2.2 rfl (by omega) (.slice A6 j c6) j ([] ++ gunCells (gs.take j)) rfl (by first | exact HOWN7.out | exact owns_below HOWN7.out (below_drew (Below.refl _ _))) AD (gs.length - (j + 1)) (c - (j + 1)) (gunCells (gs.drop (j + 1))) rfl (by rw [gunCells_len, List.length_drop]) (HNW.out _ (by first | exact HB7.out | exact below_drew HB7.out)) (gunCells_one _) (by simp only [maxLen]; omega) (by omega) (by first | exact HB7z.out | omega) ?_; intro A8 c8 w8 hown8 hgrow8; rw [HLEN.out] at hown8 ⊢; have HB8 : Hid (Below w.heap.size w w8) := Lib.hid (Below.grown (by first | exact HB7.out | exact below_drew HB7.out) hgrow8 (by have := HBQ.out.size; have := HB7z.out; first | omega | (simp; omega)) (fun k hk => by have := (HOWN7.out.lt k hk).1; have := HBQ.out.size; omega)); have hR8 : RdG w8 A8 (gs.eraseIdx j) := RdG.of_owns (by rw [List.nil_append, HEC.out] at hown8; exact hown8); have HR8 := Lib.hid hR8; clear hown8 hgrow8 hR8))
      all_goals
        go_wp2_with fail
        have hC := pgreat_any (gs.eraseIdx j) hs water A8 B c8 d w8 HRF.out (by have := HW.out; omega) HR8.out (HH.out.below HB8.out)
        rw [← HN4.out] at hC
        refine hC.mono ?_
        rintro e w9 ⟨rfl, hb9⟩
        have HB9 := Lib.hid (thru HB8.out hb9 HB8.out.size)
        clear hb9 hC
        go_wp2
        go_ret
        exact ⟨rfl, HB9.out⟩
  · skip
    have hhp : (0 : Int) < (hs.length : Int) := by omega
    have hhpn : decide (0 < hs.length) = true := decide_eq_true (by omega)
    have HHP := Lib.hid hhz
    clear hhz
    go_enter Try.func8, Try.ntmps8
    go_wp2_with fail
    refine (alive_any _).mono ?_
    rintro e w1 ⟨rfl, hb1⟩
    have HB1 := Lib.hid hb1
    clear hb1
    go_wp2_with fail
    refine (pright_any gs hs A B c d _ (HG.out.below HB1.out) (HH.out.below HB1.out)).mono ?_
    rw [HRT.out]
    rintro e w2 ⟨rfl, hb2⟩
    have HB2 := Lib.hid (thru HB1.out hb2 HB1.out.size)
    clear hb2
    go_wp2_with fail
    refine (pgreat_any gs hs water A B c d _ HRT.out (by have := HW.out; omega) (HG.out.below HB2.out) (HH.out.below HB2.out)).mono ?_
    rw [← HN.out]
    rintro e w3 ⟨rfl, hb3⟩
    have HB3 := Lib.hid (thru HB2.out hb3 HB2.out.size)
    clear hb3
    go_wp2_with fail
    refine (pgreat_any gs hs (water + bY) A B c d _ HRT.out (by have := HW.out; have := HY.out; omega) (HG.out.below HB3.out) (HH.out.below HB3.out)).mono ?_
    rw [← HN2.out]
    rintro e w4 ⟨rfl, hb4⟩
    have HB4 := Lib.hid (thru HB3.out hb4 HB3.out.size)
    clear hb4
    obtain ⟨i, hil, him⟩ := more_i (n := hs.length) (by have := HHP.out; omega) HT.out.1
    obtain ⟨hb, ho, rfl, hbz, -⟩ := HH.out (by have := HHP.out; omega)
    have hbb := HA.out.hour i
    obtain ⟨po, hpo⟩ : ∃ x, x = (Plan.hAt hs i).power := ⟨_, rfl⟩
    obtain ⟨fa, hfa⟩ : ∃ x, x = (Plan.hAt hs i).factor := ⟨_, rfl⟩
    obtain ⟨X, hX⟩ : ∃ X, X = min 1000000000 (po + bY) := ⟨_, rfl⟩
    rw [← hpo] at hbb
    have hXb : 0 ≤ X ∧ X ≤ 1000000000 ∧ po ≤ X := by have := HY.out; omega
    have hr' : Plan.rightE gs (hs.set i ⟨X, (Plan.hAt hs i).factor⟩) = 0 := Plan.right_set HRT.out i hXb.1 hXb.2.1
    obtain ⟨N3, hN3⟩ : ∃ N, N = Plan.greatE gs (hs.set i ⟨X, (Plan.hAt hs i).factor⟩) water := ⟨_, rfl⟩
    have hle3 : N ≤ N3 := by rw [HN.out, hN3]; exact great_le HRT.out hr' HW.out.1 HW.out.1 (Plan.gr_up HA.out (Plan.up_set hs i X hil (by rw [← hpo]; exact hXb.2.2)) HW.out.1)
    have hle3i : decide (N3 < N) = false := decide_eq_false (by omega)
    have e4 : wrap64 (po + bY) = po + bY := by have := HY.out; unfold wrap64; omega
    have HPO := Lib.hid hpo
    have HFA := Lib.hid hfa
    have hXc : (po + bY < 1000000000 ∧ X = po + bY) ∨ (¬ po + bY < 1000000000 ∧ X = 1000000000) := by omega
    obtain ⟨h0i, hi0, hz0, hz1, hz2⟩ := info_parts hour_info
    have HI := Lib.hid (And.intro hi0 (And.intro hz0 (And.intro hz1 hz2)))
    have HNEW := Lib.hid (HH.out.below HB4.out)
    have hn2 : ((hs.length : Int) == 0) = false := beq_eq_false_iff_ne.2 (by have := HHP.out; omega)
    have HR' := Lib.hid hr'
    have HN3 := Lib.hid hN3
    have HIL := Lib.hid hil
    clear hi0 hz0 hz1 hz2 hle3 hbb hXb hpo hfa hX hr' hN3 hil
    rcases hXc with ⟨hm, hX⟩ | ⟨hm, hX⟩
    · skip
      subst hX
      go_wp2_with (at_builtin; refine wpList_append_lies _ rfl (.tmp 56) (.tmp 57) 23 rfl (w4.heap.size) 38 h0i _ 2 16 Try.underlying23 HI.out.1 HI.out.2.1 HI.out.2.2.1 HI.out.2.2.2 rfl (by omega) (.slice (some ⟨w4.heap.size, 0, none⟩) 0 0) 0 [] rfl (World.ownsRow_made _ _ _ (Nat.le_refl _) (by simp [maxLen]) rfl) ⟨hb, ho, none⟩ hs.length d (hourCells hs) rfl (hourCells_len hs) (RdH.news (HNEW.out.below (Joins.below_alloc1 _ _))) (hourCells_one hs) (by have := HHP.out; omega) (by simp only [maxLen]; omega) (by omega) (by simp) _ rfl ?_; intro g c5 w5 hown hgrow hat hlt; rw [Nat.zero_add] at hown ⊢; have HB5 : Hid (Below w.heap.size w w5) := Lib.hid (((HB4.out.alloc HB4.out.size _).grown hgrow (by have := HB4.out.size; simp; omega) (fun k hk => by have := HB4.out.size; simp [Value.ownBlock] at hk; omega))); have hR5 : RdH w5 (some ⟨g, 0, none⟩) hs := RdH.of_owns hown; have HR5 := Lib.hid hR5; obtain ⟨gb, go, ge, gz, gc⟩ := hR5.at_ HIL.out; injection ge with ge; injection ge with ge1 ge2; subst ge1 ge2; obtain ⟨k0, k1⟩ := gc; rw [Nat.zero_add, ← HPO.out] at k0; have kf := fun j => hown.frozenAt j; have hgw : w.heap.size ≤ g := (by have h1 := (hown.lt g rfl).1; have h2 := HB4.out.size; omega); clear hown hgrow k1 hat hR5)
      have hC := pgreat_any gs (hs.set i ⟨po + bY, (Plan.hAt hs i).factor⟩) water A (some ⟨g, 0, none⟩) c c5 (w5.setCell ⟨g, i * 2, none⟩ (.int .i64 (po + bY))) HR'.out (by have := HW.out; omega) (HG.out.below (HB5.out.setCell (by have := HB5.out.size; first | omega | (simp; omega)) _)) (by have h := RdH.put HR5.out HIL.out (po + bY); rw [Nat.zero_add] at h; exact h)
      rw [List.length_set, ← HN3.out] at hC
      have HCC := Lib.hid hC
      clear hC kf k0 hlt gz
      refine HCC.out.mono ?_
      rintro e w6 ⟨rfl, hb6⟩
      have HB6 := Lib.hid (thru (HB5.out.setCell (by have := HB5.out.size; first | omega | (simp; omega)) _) hb6 (by have := HB5.out.size; simp; omega))
      clear hb6 HCC
      have HBQ := HB6
      clear HB6
      by_cases hgz : gs.length = 0
      · have hg0 : ((gs.length : Int) == 0) = true := beq_iff_eq.2 (by omega)
        have hNZ : (N == 0) = true := beq_iff_eq.2 (by
          have h1 := HN.out
          have h2 := HA.out
          have h3 : gs = [] := List.eq_nil_of_length_eq_zero hgz
          rw [Plan.great_gr h2 HW.out.1] at h1
          rw [h3] at h1 h2
          rw [h1]; exact Plan.gr_none hs h2 HW.out.1)
        clear hgz
        go_wp2
        go_ret
        exact ⟨rfl, HBQ.out⟩
      · have hg0 : ((gs.length : Int) == 0) = false := beq_eq_false_iff_ne.2 (by omega)
        obtain ⟨j, hjl, hjm⟩ := more_i (n := gs.length) (by omega) HT.out.1
        obtain ⟨gb, go, rfl, gbz, -⟩ := HG.out (by omega)
        have hrf : Plan.rightE (gs.eraseIdx j) hs = 0 := Plan.right_less HRT.out j
        obtain ⟨N4, hN4⟩ : ∃ N, N = Plan.greatE (gs.eraseIdx j) hs water := ⟨_, rfl⟩
        have hle4 : N4 ≤ N := by rw [HN.out, hN4]; exact great_le hrf HRT.out HW.out.1 HW.out.1 (Plan.gr_less hjl (Plan.acc_of hrf) HW.out.1)
        have hle4i : decide (N4 ≤ N) = true := decide_eq_true hle4
        obtain ⟨g0i, hi0, hz0, hz1, hz2⟩ := info_parts gun_info
        have HGI := Lib.hid (And.intro hi0 (And.intro hz0 (And.intro hz1 hz2)))
        have hel : (gs.eraseIdx j).length + 1 = gs.length := by rw [List.length_eraseIdx, if_pos hjl]; omega
        have hec : gunCells (gs.take j) ++ gunCells (gs.drop (j + 1)) = gunCells (gs.eraseIdx j) := by rw [List.eraseIdx_eq_take_drop_succ, gunCells_app]
        have hjc : j + 1 ≤ c := by have := HC.out; omega
        have hjci : (j : Int) + 1 ≤ (c : Int) := by omega
        have hjcj : (j : Int) ≤ (c : Int) := by omega
        have hjlj : (j : Int) + 1 ≤ (gs.length : Int) := by omega
        have e7 : IntKind.i64.wrap ((j : Int) + 1) = (j : Int) + 1 := IntWalk.i64_in _ (by omega)
        have hnn : (0 : Int) ≤ (j : Int) + 1 := by omega
        obtain ⟨AD, hAD, hNW⟩ : ∃ AD : Addr, (if c = j + 1 then some (⟨gb, go, none⟩ : Addr) else some ⟨gb, go + (j + 1) * 4, none⟩) = some AD ∧ ∀ W, Below w.heap.size w W → ∀ k u, (gunCells (gs.drop (j + 1)))[k]? = some u → W.cell? (AD.add k) = some u := by
          by_cases hce : c = j + 1
          · refine ⟨⟨gb, go, none⟩, by rw [if_pos hce], fun W _ k u hu => ?_⟩
            have hd : gs.drop (j + 1) = [] := List.drop_eq_nil_of_le (by have := HC.out; omega)
            rw [hd] at hu
            simp [gunCells] at hu
          · exact ⟨⟨gb, go + (j + 1) * 4, none⟩, by rw [if_neg hce], fun W hb => RdG.news ((HG.out.below hb).drop (j + 1))⟩
        have HNW := Lib.hid hNW
        have HRF := Lib.hid hrf
        have HLEN : Hid (j + (gs.length - (j + 1)) = (gs.eraseIdx j).length) := Lib.hid (by omega)
        have HN4 := Lib.hid hN4
        have HJL := Lib.hid hjl
        have HEL := Lib.hid hel
        have HEC := Lib.hid hec
        have HLE4 := Lib.hid hle4
        have HGZ := Lib.hid hgz
        have HNEW4 := Lib.hid (HG.out.below HBQ.out)
        clear hi0 hz0 hz1 hz2 hrf hN4 hel hec hle4 hgz hjl hNW
        go_upto_region 17 with fail
        go_region_law (first
          | (refine step_append_any _ rfl (.tmp 93) (.tmp 96) 22 rfl (w6.heap.size) 41 g0i _ 4 32 Try.underlying22 HGI.out.1 HGI.out.2.1 HGI.out.2.2.1 HGI.out.2.2.2 rfl (by omega) (.slice (some ⟨w6.heap.size, 0, none⟩) 0 0) 0 [] rfl (by first | exact World.ownsRow_made _ _ _ (Nat.le_refl _) (by simp [maxLen]) rfl | exact owns_below (World.ownsRow_made w6 _ _ (Nat.le_refl _) (by simp [maxLen]) rfl) (below_drew (Below.refl _ _))) ⟨gb, go, none⟩ j c (gunCells (gs.take j)) rfl (by rw [gunCells_len, List.length_take]; have := HJL.out; omega) (RdG.news ((HNEW4.out.take j).below (by ((repeat (first | refine below_drewN ?_ _ | refine below_drew ?_)); go_grown)))) (gunCells_one _) (by simp only [maxLen]; omega) (by omega) (by simp) ?_; intro A6 c6 w7 hown7 hgrow7; rw [Nat.zero_add] at hown7 ⊢; have HB7 : Hid (Below w.heap.size w w7) := Lib.hid (Below.grown (by have := HBQ.out.size; first | exact HBQ.out.alloc HBQ.out.size _ | exact (below_drew HBQ.out).alloc (by simp; omega) _ | exact below_drew (HBQ.out.alloc HBQ.out.size _)) hgrow7 (by have := HBQ.out.size; simp; omega) (fun k hk => by have := HBQ.out.size; simp [Value.ownBlock] at hk; omega)); have HB7z : Hid (w6.heap.size ≤ w7.heap.size) := Lib.hid (by have h := hgrow7.size; simp at h; omega); have HOWN7 := Lib.hid hown7; clear hown7 hgrow7)
          | (refine step_append_any _ rfl (.tmp 97) (.tmp 101) 22 rfl (w6.heap.size) 41 g0i _ 4 32 Try.underlying22 HGI.out.1 HGI.out.2.1 HGI.out.2.2.1 HGI.out.2.2.2 rfl (by omega) (.slice A6 j c6) j ([] ++ gunCells (gs.take j)) rfl (by first | exact HOWN7.out | exact owns_below HOWN7.out (below_drew (Below.refl _ _))) AD (gs.length - (j + 1)) (c - (j + 1)) (gunCells (gs.drop (j + 1))) rfl (by rw [gunCells_len, List.length_drop]) (HNW.out _ (by first | exact HB7.out | exact below_drew HB7.out)) (gunCells_one _) (by simp only [maxLen]; omega) (by omega) (by first | exact HB7z.out | omega) ?_; intro A8 c8 w8 hown8 hgrow8; rw [HLEN.out] at hown8 ⊢; have HB8 : Hid (Below w.heap.size w w8) := Lib.hid (Below.grown (by first | exact HB7.out | exact below_drew HB7.out) hgrow8 (by have := HBQ.out.size; have := HB7z.out; first | omega | (simp; omega)) (fun k hk => by have := (HOWN7.out.lt k hk).1; have := HBQ.out.size; omega)); have hR8 : RdG w8 A8 (gs.eraseIdx j) := RdG.of_owns (by rw [List.nil_append, HEC.out] at hown8; exact hown8); have HR8 := Lib.hid hR8; clear hown8 hgrow8 hR8))
        all_goals
          go_wp2_with fail
          have hC := pgreat_any (gs.eraseIdx j) hs water A8 (some ⟨hb, ho, none⟩) c8 d w8 HRF.out (by have := HW.out; omega) HR8.out (HH.out.below HB8.out)
          rw [← HN4.out] at hC
          refine hC.mono ?_
          rintro e w9 ⟨rfl, hb9⟩
          have HB9 := Lib.hid (thru HB8.out hb9 HB8.out.size)
          clear hb9 hC
          go_wp2
          go_ret
          exact ⟨rfl, HB9.out⟩
    · skip
      subst hX
      go_wp2_with (at_builtin; refine wpList_append_lies _ rfl (.tmp 56) (.tmp 57) 23 rfl (w4.heap.size) 38 h0i _ 2 16 Try.underlying23 HI.out.1 HI.out.2.1 HI.out.2.2.1 HI.out.2.2.2 rfl (by omega) (.slice (some ⟨w4.heap.size, 0, none⟩) 0 0) 0 [] rfl (World.ownsRow_made _ _ _ (Nat.le_refl _) (by simp [maxLen]) rfl) ⟨hb, ho, none⟩ hs.length d (hourCells hs) rfl (hourCells_len hs) (RdH.news (HNEW.out.below (Joins.below_alloc1 _ _))) (hourCells_one hs) (by have := HHP.out; omega) (by simp only [maxLen]; omega) (by omega) (by simp) _ rfl ?_; intro g c5 w5 hown hgrow hat hlt; rw [Nat.zero_add] at hown ⊢; have HB5 : Hid (Below w.heap.size w w5) := Lib.hid (((HB4.out.alloc HB4.out.size _).grown hgrow (by have := HB4.out.size; simp; omega) (fun k hk => by have := HB4.out.size; simp [Value.ownBlock] at hk; omega))); have hR5 : RdH w5 (some ⟨g, 0, none⟩) hs := RdH.of_owns hown; have HR5 := Lib.hid hR5; obtain ⟨gb, go, ge, gz, gc⟩ := hR5.at_ HIL.out; injection ge with ge; injection ge with ge1 ge2; subst ge1 ge2; obtain ⟨k0, k1⟩ := gc; rw [Nat.zero_add, ← HPO.out] at k0; have kf := fun j => hown.frozenAt j; have hgw : w.heap.size ≤ g := (by have h1 := (hown.lt g rfl).1; have h2 := HB4.out.size; omega); clear hown hgrow k1 hat hR5)
      have hC := pgreat_any gs (hs.set i ⟨1000000000, (Plan.hAt hs i).factor⟩) water A (some ⟨g, 0, none⟩) c c5 (w5.setCell ⟨g, i * 2, none⟩ (.int .i64 (1000000000))) HR'.out (by have := HW.out; omega) (HG.out.below (HB5.out.setCell (by have := HB5.out.size; first | omega | (simp; omega)) _)) (by have h := RdH.put HR5.out HIL.out (1000000000); rw [Nat.zero_add] at h; exact h)
      rw [List.length_set, ← HN3.out] at hC
      have HCC := Lib.hid hC
      clear hC kf k0 hlt gz
      refine HCC.out.mono ?_
      rintro e w6 ⟨rfl, hb6⟩
      have HB6 := Lib.hid (thru (HB5.out.setCell (by have := HB5.out.size; first | omega | (simp; omega)) _) hb6 (by have := HB5.out.size; simp; omega))
      clear hb6 HCC
      have HBQ := HB6
      clear HB6
      by_cases hgz : gs.length = 0
      · have hg0 : ((gs.length : Int) == 0) = true := beq_iff_eq.2 (by omega)
        have hNZ : (N == 0) = true := beq_iff_eq.2 (by
          have h1 := HN.out
          have h2 := HA.out
          have h3 : gs = [] := List.eq_nil_of_length_eq_zero hgz
          rw [Plan.great_gr h2 HW.out.1] at h1
          rw [h3] at h1 h2
          rw [h1]; exact Plan.gr_none hs h2 HW.out.1)
        clear hgz
        go_wp2
        go_ret
        exact ⟨rfl, HBQ.out⟩
      · have hg0 : ((gs.length : Int) == 0) = false := beq_eq_false_iff_ne.2 (by omega)
        obtain ⟨j, hjl, hjm⟩ := more_i (n := gs.length) (by omega) HT.out.1
        obtain ⟨gb, go, rfl, gbz, -⟩ := HG.out (by omega)
        have hrf : Plan.rightE (gs.eraseIdx j) hs = 0 := Plan.right_less HRT.out j
        obtain ⟨N4, hN4⟩ : ∃ N, N = Plan.greatE (gs.eraseIdx j) hs water := ⟨_, rfl⟩
        have hle4 : N4 ≤ N := by rw [HN.out, hN4]; exact great_le hrf HRT.out HW.out.1 HW.out.1 (Plan.gr_less hjl (Plan.acc_of hrf) HW.out.1)
        have hle4i : decide (N4 ≤ N) = true := decide_eq_true hle4
        obtain ⟨g0i, hi0, hz0, hz1, hz2⟩ := info_parts gun_info
        have HGI := Lib.hid (And.intro hi0 (And.intro hz0 (And.intro hz1 hz2)))
        have hel : (gs.eraseIdx j).length + 1 = gs.length := by rw [List.length_eraseIdx, if_pos hjl]; omega
        have hec : gunCells (gs.take j) ++ gunCells (gs.drop (j + 1)) = gunCells (gs.eraseIdx j) := by rw [List.eraseIdx_eq_take_drop_succ, gunCells_app]
        have hjc : j + 1 ≤ c := by have := HC.out; omega
        have hjci : (j : Int) + 1 ≤ (c : Int) := by omega
        have hjcj : (j : Int) ≤ (c : Int) := by omega
        have hjlj : (j : Int) + 1 ≤ (gs.length : Int) := by omega
        have e7 : IntKind.i64.wrap ((j : Int) + 1) = (j : Int) + 1 := IntWalk.i64_in _ (by omega)
        have hnn : (0 : Int) ≤ (j : Int) + 1 := by omega
        obtain ⟨AD, hAD, hNW⟩ : ∃ AD : Addr, (if c = j + 1 then some (⟨gb, go, none⟩ : Addr) else some ⟨gb, go + (j + 1) * 4, none⟩) = some AD ∧ ∀ W, Below w.heap.size w W → ∀ k u, (gunCells (gs.drop (j + 1)))[k]? = some u → W.cell? (AD.add k) = some u := by
          by_cases hce : c = j + 1
          · refine ⟨⟨gb, go, none⟩, by rw [if_pos hce], fun W _ k u hu => ?_⟩
            have hd : gs.drop (j + 1) = [] := List.drop_eq_nil_of_le (by have := HC.out; omega)
            rw [hd] at hu
            simp [gunCells] at hu
          · exact ⟨⟨gb, go + (j + 1) * 4, none⟩, by rw [if_neg hce], fun W hb => RdG.news ((HG.out.below hb).drop (j + 1))⟩
        have HNW := Lib.hid hNW
        have HRF := Lib.hid hrf
        have HLEN : Hid (j + (gs.length - (j + 1)) = (gs.eraseIdx j).length) := Lib.hid (by omega)
        have HN4 := Lib.hid hN4
        have HJL := Lib.hid hjl
        have HEL := Lib.hid hel
        have HEC := Lib.hid hec
        have HLE4 := Lib.hid hle4
        have HGZ := Lib.hid hgz
        have HNEW4 := Lib.hid (HG.out.below HBQ.out)
        clear hi0 hz0 hz1 hz2 hrf hN4 hel hec hle4 hgz hjl hNW
        go_upto_region 17 with fail
        go_region_law (first
          | (refine step_append_any _ rfl (.tmp 93) (.tmp 96) 22 rfl (w6.heap.size) 41 g0i _ 4 32 Try.underlying22 HGI.out.1 HGI.out.2.1 HGI.out.2.2.1 HGI.out.2.2.2 rfl (by omega) (.slice (some ⟨w6.heap.size, 0, none⟩) 0 0) 0 [] rfl (by first | exact World.ownsRow_made _ _ _ (Nat.le_refl _) (by simp [maxLen]) rfl | exact owns_below (World.ownsRow_made w6 _ _ (Nat.le_refl _) (by simp [maxLen]) rfl) (below_drew (Below.refl _ _))) ⟨gb, go, none⟩ j c (gunCells (gs.take j)) rfl (by rw [gunCells_len, List.length_take]; have := HJL.out; omega) (RdG.news ((HNEW4.out.take j).below (by ((repeat (first | refine below_drewN ?_ _ | refine below_drew ?_)); go_grown)))) (gunCells_one _) (by simp only [maxLen]; omega) (by omega) (by simp) ?_; intro A6 c6 w7 hown7 hgrow7; rw [Nat.zero_add] at hown7 ⊢; have HB7 : Hid (Below w.heap.size w w7) := Lib.hid (Below.grown (by have := HBQ.out.size; first | exact HBQ.out.alloc HBQ.out.size _ | exact (below_drew HBQ.out).alloc (by simp; omega) _ | exact below_drew (HBQ.out.alloc HBQ.out.size _)) hgrow7 (by have := HBQ.out.size; simp; omega) (fun k hk => by have := HBQ.out.size; simp [Value.ownBlock] at hk; omega)); have HB7z : Hid (w6.heap.size ≤ w7.heap.size) := Lib.hid (by have h := hgrow7.size; simp at h; omega); have HOWN7 := Lib.hid hown7; clear hown7 hgrow7)
          | (refine step_append_any _ rfl (.tmp 97) (.tmp 101) 22 rfl (w6.heap.size) 41 g0i _ 4 32 Try.underlying22 HGI.out.1 HGI.out.2.1 HGI.out.2.2.1 HGI.out.2.2.2 rfl (by omega) (.slice A6 j c6) j ([] ++ gunCells (gs.take j)) rfl (by first | exact HOWN7.out | exact owns_below HOWN7.out (below_drew (Below.refl _ _))) AD (gs.length - (j + 1)) (c - (j + 1)) (gunCells (gs.drop (j + 1))) rfl (by rw [gunCells_len, List.length_drop]) (HNW.out _ (by first | exact HB7.out | exact below_drew HB7.out)) (gunCells_one _) (by simp only [maxLen]; omega) (by omega) (by first | exact HB7z.out | omega) ?_; intro A8 c8 w8 hown8 hgrow8; rw [HLEN.out] at hown8 ⊢; have HB8 : Hid (Below w.heap.size w w8) := Lib.hid (Below.grown (by first | exact HB7.out | exact below_drew HB7.out) hgrow8 (by have := HBQ.out.size; have := HB7z.out; first | omega | (simp; omega)) (fun k hk => by have := (HOWN7.out.lt k hk).1; have := HBQ.out.size; omega)); have hR8 : RdG w8 A8 (gs.eraseIdx j) := RdG.of_owns (by rw [List.nil_append, HEC.out] at hown8; exact hown8); have HR8 := Lib.hid hR8; clear hown8 hgrow8 hR8))
        all_goals
          go_wp2_with fail
          have hC := pgreat_any (gs.eraseIdx j) hs water A8 (some ⟨hb, ho, none⟩) c8 d w8 HRF.out (by have := HW.out; omega) HR8.out (HH.out.below HB8.out)
          rw [← HN4.out] at hC
          refine hC.mono ?_
          rintro e w9 ⟨rfl, hb9⟩
          have HB9 := Lib.hid (thru HB8.out hb9 HB8.out.size)
          clear hb9 hC
          go_wp2
          go_ret
          exact ⟨rfl, HB9.out⟩
end Go.Proofs.Ytnblfhoogcdcfaa
