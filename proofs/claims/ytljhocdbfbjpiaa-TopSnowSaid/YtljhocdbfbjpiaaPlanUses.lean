/-
  The walk of the function that makes the table of what the sets of guns use.
-/
import Derived.Test.YtljhocdbfbjpiaaPlanUsePlain
import Derived.Deep.DeepCutAuto
import Derived.Deep.RegionLaw
namespace Go.Proofs.Ytljhocdbfbjpiaa
open Go.RowKit

theorem uses_info : (Try.prog.info? 85).map (fun i => (i.zero, i.size, i.bytes)) = some (some (.slice none 0 0), 1, 24) := by kernel_rfl
theorem use_info : (Try.prog.info? 87).map (fun i => (i.zero, i.size, i.bytes)) = some (some (useV 0 0 0), 3, 24) := by kernel_rfl
theorem make_rows (n : Nat) (hn : n ≤ 3) (w : World) : (Instr.makeSlice 82 (.int .i64 (n : Int)) (.int .i64 (n : Int))).run Try.prog w = .ok (.slice (some ⟨w.heap.size, 0, none⟩) n n) (w.alloc (.cells (madeCells #[.slice none 0 0] n) 85)) :=
  run_make_row' 82 85 (.slice none 0 0) 24 Try.underlying82 uses_info rfl .i64 .i64 n (by omega) (by omega) w
theorem made_at (z : Value) (n : Nat) (t : TypeId) (w : World) {k : Nat} (hk : k < n) : (w.alloc (.cells (madeCells #[z] n) t)).cell? ⟨w.heap.size, k, none⟩ = some z := by
  have h := heap_alloc_new w (.cells (madeCells #[z] n) t)
  simp only [World.cell?, h]
  simp [madeCells, hk, Nat.mod_one]
theorem made_fr (z : Value) (n : Nat) (t : TypeId) (w : World) (k : Nat) : (w.alloc (.cells (madeCells #[z] n) t)).frozen? ⟨w.heap.size, k, none⟩ = false := by
  have h := heap_alloc_new w (.cells (madeCells #[z] n) t)
  simp only [World.frozen?, h]
  simp

structure UseRel (gs : List Plan.Gun) (h : Plan.Hour) (B k hb : Nat) (w wo : World) (s : Nat) (wr : World) : Prop where
  row : ∃ v, wr.cell? ⟨B, k, none⟩ = some v ∧ wr.ownsRow wo.heap.size 87 3 v s (useCells gs h s)
  far : ∀ j, j ≠ k → wr.cell? ⟨B, j, none⟩ = wo.cell? ⟨B, j, none⟩
  fr : ∀ j, wr.frozen? ⟨B, j, none⟩ = false
  g : wo.grownBy wr (some B)
  h0 : wr.cell? ⟨hb, 0, none⟩ = some (.int .i64 h.power)
  h1 : wr.cell? ⟨hb, 1, none⟩ = some (.int .i64 h.factor)
  be : Below w.heap.size w wr
structure UsesRel (gs : List Plan.Gun) (hs : List Plan.Hour) (B : Nat) (w : World) (k : Nat) (wr : World) : Prop where
  old : ∀ j, j < k → ∃ v, wr.cell? ⟨B, j, none⟩ = some v ∧ RowU B gs (Plan.hAt hs j) wr v
  new : ∀ j, k ≤ j → j < hs.length → wr.cell? ⟨B, j, none⟩ = some (.slice none 0 0)
  fr : ∀ j, wr.frozen? ⟨B, j, none⟩ = false
  z : B < wr.heap.size
  be : Below w.heap.size w wr

theorem owns_set3 {w : World} {B n z : Nat} {t : TypeId} {v : Value} {xs : List Value} (h : w.ownsRow B t z v n xs) {p : Addr} (hp : v.ownBlock ≠ some p.block) (u : Value) : (w.setCell p u).ownsRow B t z v n xs := by
  refine ⟨h.1, ?_⟩
  rcases h.2 with h0 | ⟨g, cap, cur, hv, hB, hh, r⟩
  · exact .inl h0
  · refine .inr ⟨g, cap, cur, hv, hB, ?_, r⟩
    rw [Below.heap_setCell _ _ _ _ (fun e => hp (by rw [hv]; simp [Value.ownBlock, e]))]
    exact hh
theorem owns_below {w w' : World} {B n z : Nat} {t : TypeId} {v : Value} {xs : List Value} (h : w.ownsRow B t z v n xs) (hb : Below w.heap.size w w') : w'.ownsRow B t z v n xs := by
  refine ⟨h.1, ?_⟩
  rcases h.2 with h0 | ⟨g, cap, cur, hv, hB, hh, r⟩
  · exact .inl h0
  · refine .inr ⟨g, cap, cur, hv, hB, ?_, r⟩
    have hlt : g < w.heap.size := by
      rcases Nat.lt_or_ge g w.heap.size with h | h
      · exact h
      · rw [Array.getElem?_eq_none h] at hh; cases hh
    exact (hb.block g hlt).trans hh
theorem UseRel.below {gs : List Plan.Gun} {h : Plan.Hour} {B k hb : Nat} {w wo : World} {s : Nat} {wr wx : World} (hU : UseRel gs h B k hb w wo s wr) (hB : B < wo.heap.size) (hh : hb < wo.heap.size) (hw : w.heap.size ≤ B) (hx : Below wr.heap.size wr wx) : UseRel gs h B k hb w wo s wx := by
  have h1 := hU.g.size
  obtain ⟨v, c1, c2⟩ := hU.row
  refine ⟨⟨v, (hx.cell (p := ⟨B, k, none⟩) (by show B < _; omega)).trans c1, owns_below c2 hx⟩, fun j hj => (hx.cell (p := ⟨B, j, none⟩) (by show B < _; omega)).trans (hU.far j hj), fun j => (hx.frozen (p := ⟨B, j, none⟩) (by show B < _; omega)).trans (hU.fr j), ?_,
    (hx.cell (p := ⟨hb, 0, none⟩) (by show hb < _; omega)).trans hU.h0, (hx.cell (p := ⟨hb, 1, none⟩) (by show hb < _; omega)).trans hU.h1, thru hU.be hx (by omega)⟩
  exact ⟨hx.os.trans hU.g.os, hx.tape.trans hU.g.tape, hx.output.trans hU.g.output, Nat.le_trans h1 hx.size, fun j hj hne => (hx.block j (by omega)).trans (hU.g.block j hj hne)⟩
theorem UseRel.step {gs : List Plan.Gun} {h : Plan.Hour} {B k hb : Nat} {w wo : World} {s : Nat} {wx w' : World} (hU : UseRel gs h B k hb w wo s wx) (hB : B < wo.heap.size) (hh : hb < wo.heap.size) (hne : hb ≠ B) (hw : w.heap.size ≤ B)
    {v : Value} (hown : wx.ownsRow wo.heap.size 87 3 v s (useCells gs h s)) {o : Obj} {g cap : Nat}
    (hown' : w'.ownsRow wo.heap.size 87 3 (.slice (some ⟨g, 0, none⟩) (s + 1) cap) (s + 1) (useCells gs h (s + 1))) (hgrow : (wx.alloc o).grownBy w' v.ownBlock) (hc : ∃ u, w'.cell? ⟨B, k, none⟩ = some u) :
    UseRel gs h B k hb w wo (s + 1) (w'.setCell ⟨B, k, none⟩ (.slice (some ⟨g, 0, none⟩) (s + 1) cap)) := by
  have h1 := hU.g.size
  have hsz : (wx.alloc o).heap.size = wx.heap.size + 1 := by simp
  have hown_ne : ∀ j, j < wo.heap.size → some j ≠ v.ownBlock := fun j hj e => by
    have := (hown.lt j e.symm).1; omega
  have hg' : wo.heap.size ≤ g := by
    rcases hown'.2 with ⟨h0, _⟩ | ⟨g', _, _, hv, hB', _⟩
    · cases h0
    · injection hv with hv; injection hv with hv; injection hv with hv; omega
  have hblk : ∀ j, j < wo.heap.size → w'.heap[j]? = wx.heap[j]? := fun j hj =>
    (hgrow.block j (by omega) (hown_ne j hj)).trans (heap_alloc_old wx o (by omega))
  have hset : ∀ (j : Nat) (u : Value), j ≠ B → (w'.setCell ⟨B, k, none⟩ u).heap[j]? = w'.heap[j]? := fun j u hj => Below.heap_setCell _ _ _ _ (fun e => hj e)
  have hcell : ∀ (j i : Nat), j < wo.heap.size → w'.cell? ⟨j, i, none⟩ = wx.cell? ⟨j, i, none⟩ := fun j i hj => World.cell?_of_block (hblk j hj)
  have hfroz : ∀ (j i : Nat), j < wo.heap.size → w'.frozen? ⟨j, i, none⟩ = wx.frozen? ⟨j, i, none⟩ := fun j i hj => World.frozen?_of_block (hblk j hj)
  obtain ⟨u0, hu0⟩ := hc
  refine ⟨⟨_, by simp [cell_set_self, hu0], owns_set3 hown' (by simp [Value.ownBlock]; omega) _⟩, fun j hj => ?_, fun j => ?_, ?_, ?_, ?_, ?_⟩
  · rw [World.cell?_setCell_other _ _ _ _ (by intro e; injection e with _ e; omega), hcell B j hB]
    exact hU.far j hj
  · rw [World.frozen?_setCell, hfroz B j hB]; exact hU.fr j
  · refine ⟨?_, ?_, ?_, ?_, fun j hj hj2 => ?_⟩
    · exact hgrow.os.trans hU.g.os
    · exact hgrow.tape.trans hU.g.tape
    · exact hgrow.output.trans hU.g.output
    · have := hgrow.size; simp; omega
    · rw [hset j _ (fun e => hj2 (by rw [e])), hblk j hj]; exact hU.g.block j hj hj2
  · rw [World.cell?_setCell_other _ _ _ _ (by intro e; injection e with e _; omega), hcell hb 0 hh]; exact hU.h0
  · rw [World.cell?_setCell_other _ _ _ _ (by intro e; injection e with e _; omega), hcell hb 1 hh]; exact hU.h1
  · have hb' : Below w.heap.size w w' := (hU.be.alloc (by omega) o).grown hgrow (by omega) (fun j hj => by have := (hown.lt j hj).1; omega)
    exact hb'.setCell hw _
theorem UseRel.done {gs : List Plan.Gun} {hs : List Plan.Hour} {B k hb : Nat} {w wo : World} {wr : World} (hU : UseRel gs (Plan.hAt hs k) B k hb w wo (2 ^ gs.length) wr) (hR : UsesRel gs hs B w k wo) : UsesRel gs hs B w (k + 1) wr := by
  refine ⟨fun j hj => ?_, fun j h1 h2 => (hU.far j (by omega)).trans (hR.new j (by omega) h2), hU.fr, Nat.lt_of_lt_of_le hR.z hU.g.size, hU.be⟩
  rcases Nat.lt_or_ge j k with h | h
  · obtain ⟨v, h1, h2⟩ := hR.old j h
    exact ⟨v, (hU.far j (by omega)).trans h1, h2.kept hU.g⟩
  · obtain rfl : j = k := by omega
    obtain ⟨v, h1, h2⟩ := hU.row
    exact ⟨v, h1, rowU_of hR.z h2⟩
theorem heap_alloc_cell (w : World) (o : Obj) {b : Nat} (hb : b < w.heap.size) (k : Nat) : (w.alloc o).cell? ⟨b, k, none⟩ = w.cell? ⟨b, k, none⟩ := (Joins.below_alloc1 w o).cell (p := ⟨b, k, none⟩) hb
theorem UsesRel.alloc {gs : List Plan.Gun} {hs : List Plan.Hour} {B : Nat} {w : World} {k : Nat} {wr : World} (h : UsesRel gs hs B w k wr) (hB : w.heap.size ≤ B) (o : Obj) : UsesRel gs hs B w k (wr.alloc o) := by
  have hb := Joins.below_alloc1 wr o
  have hc : ∀ j, (wr.alloc o).cell? ⟨B, j, none⟩ = wr.cell? ⟨B, j, none⟩ := fun j => hb.cell (p := ⟨B, j, none⟩) h.z
  refine ⟨fun j hj => ?_, fun j h1 h2 => (hc j).trans (h.new j h1 h2), fun j => (hb.frozen (p := ⟨B, j, none⟩) h.z).trans (h.fr j), Nat.lt_of_lt_of_le h.z hb.size, h.be.alloc (by have := h.z; omega) o⟩
  obtain ⟨v, h1, h2⟩ := h.old j hj
  exact ⟨v, (hc j).trans h1, h2.kept (World.grownBy_alloc wr o (some B))⟩
theorem pow5 {n : Nat} (hn : n ≤ 5) : 2 ^ n ≤ 32 := Nat.pow_le_pow_right (by decide) hn
theorem two_pow {n : Nat} (hn : n ≤ 5) : IntKind.i64.wrap (2 ^ n) = ((2 ^ n : Nat) : Int) := by
  have := pow5 hn
  have e : ((2 : Int) ^ n) = ((2 ^ n : Nat) : Int) := by simp
  rw [e]
  generalize 2 ^ n = m at *
  exact IntWalk.i64_in _ (by omega)
theorem sz_alloc (w : World) (o : Obj) : w.heap.size < (w.alloc o).heap.size := by simp

set_option maxRecDepth 20000 in
set_option maxHeartbeats 8000000 in
theorem uses_any (gs : List Plan.Gun) (hs : List Plan.Hour) (A B : Option Addr) (c d : Nat) (w : World) (ha : Plan.Acc gs hs) (hG : RdG w A gs) (hH : RdH w B hs) :
    Calls Try.prog 24 #[.slice A gs.length c, .slice B hs.length d] w fun e w' =>
      e = .returned (.slice (some ⟨w.heap.size, 0, none⟩) hs.length hs.length) ∧ UsesRel gs hs w.heap.size w hs.length w' := by
  have hl3 : hs.length ≤ 3 := ha.hl
  have hg5 : gs.length ≤ 5 := ha.gl
  have HA := Lib.hid ha
  have HG := Lib.hid hG
  have HH := Lib.hid hH
  clear ha hG hH
  have hmk := make_rows hs.length hl3 w
  obtain ⟨i0, hi0, hz0, hz1, hz2⟩ := info_parts use_info
  have HI := Lib.hid (And.intro hi0 (And.intro hz0 (And.intro hz1 hz2)))
  clear hi0 hz0 hz1 hz2
  go_enter Try.func24, Try.ntmps24
  go_wp2
  go_loopw [16] (fun i wr => ∃ k : Nat, k ≤ hs.length ∧ i = .int .i64 k ∧ UsesRel gs hs w.heap.size w k wr) (fun i _ => hs.length - (intOf i).toNat)
  case atStart =>
    exact ⟨0, Nat.zero_le _, rfl, fun j hj => absurd hj (by omega), fun j _ hj => made_at _ _ _ _ hj, fun j => made_fr _ _ _ _ j, by simp, Joins.below_alloc1 _ _⟩
  case round =>
    rename World => wo
    obtain ⟨k, hk, rfl, hR⟩ := hrel
    have HR := Lib.hid hR
    clear hR
    by_cases hlt : k < hs.length
    · obtain ⟨hb, ho, rfl, hhb, c0, c1⟩ := (HH.out.below HR.out.be).at_ hlt
      have HLT := Lib.hid hlt
      obtain ⟨po, hpo⟩ : ∃ x, x = (Plan.hAt hs k).power := ⟨_, rfl⟩
      obtain ⟨fa, hfa⟩ : ∃ x, x = (Plan.hAt hs k).factor := ⟨_, rfl⟩
      rw [← hpo] at c0
      rw [← hfa] at c1
      have HPO := Lib.hid hpo
      have HFA := Lib.hid hfa
      clear hpo hfa
      have hsh := two_pow hg5
      have hN32 := pow5 hg5
      obtain ⟨N, hN⟩ : ∃ N, N = 2 ^ gs.length := ⟨_, rfl⟩
      rw [← hN] at hsh hN32
      have HN := Lib.hid hN
      clear hN
      go_wp2
      have H1 := Lib.hid (HR.out.alloc (Nat.le_refl _) (.cells #[.int .i64 po, .int .i64 fa] 81))
      have f0 : (wo.alloc (.cells #[.int .i64 po, .int .i64 fa] 81)).cell? ⟨wo.heap.size, 0, none⟩ = some (.int .i64 po) := by simp [go_sem]
      have f1 : (wo.alloc (.cells #[.int .i64 po, .int .i64 fa] 81)).cell? ⟨wo.heap.size, 1, none⟩ = some (.int .i64 fa) := by simp [go_sem]
      have fz : wo.heap.size < (wo.alloc (.cells #[.int .i64 po, .int .i64 fa] 81)).heap.size := by simp
      have fz0 : w.heap.size < (wo.alloc (.cells #[.int .i64 po, .int .i64 fa] 81)).heap.size := by have := HR.out.z; simp; omega
      have fne : wo.heap.size ≠ w.heap.size := by have := HR.out.z; omega
      have fw : w.heap.size ≤ w.heap.size := Nat.le_refl _
      clear HR c0 c1
      generalize wo.alloc (.cells #[.int .i64 po, .int .i64 fa] 81) = w1 at *
      generalize wo.heap.size = hb1 at *
      have F0 := Lib.hid f0
      have F1 := Lib.hid f1
      clear f0 f1
      go_loopw [24] (fun i wr => ∃ s : Nat, s ≤ N ∧ i = .int .i64 s ∧ UseRel gs (Plan.hAt hs k) w.heap.size k hb1 w w1 s wr) (fun i _ => N - (intOf i).toNat)
      case atStart =>
        exact ⟨0, Nat.zero_le _, rfl, ⟨_, H1.out.new k (Nat.le_refl _) HLT.out, World.ownsRow_nil _ _ _ _⟩, fun _ _ => rfl, H1.out.fr, ⟨rfl, rfl, rfl, Nat.le_refl _, fun _ _ _ => rfl⟩, by rw [← HPO.out]; exact F0.out, by rw [← HFA.out]; exact F1.out, H1.out.be⟩
      case round =>
        obtain ⟨s, hs', rfl, hU⟩ := hrel
        have HU := Lib.hid hU
        clear hU
        by_cases hsl : s < N
        · have hs2 : s < 2 ^ gs.length := by rw [← HN.out]; exact hsl
          have HSL := Lib.hid hsl
          have HS2 := Lib.hid hs2
          clear hs2
          have h0 : wr.cell? ⟨hb1, 0, none⟩ = some (.int .i64 po) := by rw [HPO.out]; exact HU.out.h0
          have h1 : wr.cell? ⟨hb1, 1, none⟩ = some (.int .i64 fa) := by rw [HFA.out]; exact HU.out.h1
          have z1 : hb1 < wr.heap.size := Nat.lt_of_lt_of_le fz HU.out.g.size
          have hzw : w.heap.size < wr.heap.size := Nat.lt_of_lt_of_le fz0 HU.out.g.size
          have be := HU.out.be
          obtain ⟨V, hV⟩ : ∃ V, V = Plan.uV gs (Plan.hAt hs k) s := ⟨_, rfl⟩
          obtain ⟨X, hX⟩ : ∃ X, X = Plan.uW gs s := ⟨_, rfl⟩
          obtain ⟨P, hP⟩ : ∃ P, P = Plan.uP gs s := ⟨_, rfl⟩
          have HSUM : Hid (∀ (W : World) (A2 : Option Addr) (c2 : Nat), Below w.heap.size w W → Rd W A2 (Plan.memL gs.length s) →
              Calls Try.prog 27 #[.slice A gs.length c, .agg #[.int .i64 po, .int .i64 fa], .slice A2 (Plan.memL gs.length s).length c2] W fun e w' => e = .returned (.tuple #[useV V X P, .bool true]) ∧ Below W.heap.size W w') := Lib.hid (by
            intro W A2 c2 hw hl
            rw [HPO.out, HFA.out, hV, hX, hP]
            have h := sum_any gs hs k (Plan.memL gs.length s) A A2 c c2 W HA.out (HG.out.below hw) hl
            rw [sumOut_yes Plan.memL_ok] at h
            exact h)
          have HV := Lib.hid (And.intro hV (And.intro hX hP))
          clear hV hX hP
          go_upto_region 8 with fail
          go_cut [9, 10] from 27 to 34 (fun s9 _ wv => ∃ (wx : World) (g9 : Nat), wx = wv ∧ s9 = .pointer (some ⟨g9, 0, none⟩) ∧ UseAt wx g9 0 V X P ∧ g9 < wx.heap.size ∧ Below wr.heap.size wr wx)
          case first =>
            go_region_held3 (fun w' => w'.cell? ⟨hb1, 0, none⟩ = some (.int .i64 po) ∧ w'.cell? ⟨hb1, 1, none⟩ = some (.int .i64 fa)) (first | with_reducible exact ⟨h0, h1⟩ | with_reducible exact ⟨k0, k1⟩ | with_reducible exact ⟨m0, m1⟩ | (simp [go_sem, h0, h1, z1]; done) | (simp [go_sem, k0, k1, zz1]; done) | (simp [go_sem, m0, m1, zz3]; done)) (first
              | (go_at_call 26; with_reducible refine (members_any gs.length s (World.alloc (World.drew wr) _) hg5 HS2.out).mono ?_; rintro e w2 ⟨A2, c2, rfl, ho2, hb2⟩; have gm : Below wr.heap.size wr w2 := thru (by first | with_reducible exact (Below.refl _ _).drew | with_reducible exact ((Below.refl _ _).drew).alloc (by simp) _ | with_reducible exact ((Below.refl _ _).alloc (by simp) _).drew) hb2 (by first | omega | (simp; done) | (simp; omega)); have k0 := gm.cell (p := ⟨hb1, 0, none⟩) z1; have k1 := gm.cell (p := ⟨hb1, 1, none⟩) z1; rw [h0] at k0; rw [h1] at k1; have zz2 : wr.heap.size ≤ w2.heap.size := gm.size; have zz1 : hb1 < w2.heap.size := (by omega); have mu0 := hb2.cell (p := ⟨wr.heap.size, 0, none⟩) (by simp); have muf0 := hb2.frozen (p := ⟨wr.heap.size, 0, none⟩) (by simp); have mu1 := hb2.cell (p := ⟨wr.heap.size, 1, none⟩) (by simp); have muf1 := hb2.frozen (p := ⟨wr.heap.size, 1, none⟩) (by simp); have mu2 := hb2.cell (p := ⟨wr.heap.size, 2, none⟩) (by simp); have muf2 := hb2.frozen (p := ⟨wr.heap.size, 2, none⟩) (by simp); have zu : wr.heap.size < w2.heap.size := Nat.lt_of_lt_of_le (by simp) hb2.size)
              | (go_at_call 26; with_reducible refine (members_any gs.length s (World.drew (World.alloc wr _)) hg5 HS2.out).mono ?_; rintro e w2 ⟨A2, c2, rfl, ho2, hb2⟩; have gm : Below wr.heap.size wr w2 := thru (by first | with_reducible exact (Below.refl _ _).drew | with_reducible exact ((Below.refl _ _).drew).alloc (by simp) _ | with_reducible exact ((Below.refl _ _).alloc (by simp) _).drew) hb2 (by first | omega | (simp; done) | (simp; omega)); have k0 := gm.cell (p := ⟨hb1, 0, none⟩) z1; have k1 := gm.cell (p := ⟨hb1, 1, none⟩) z1; rw [h0] at k0; rw [h1] at k1; have zz2 : wr.heap.size ≤ w2.heap.size := gm.size; have zz1 : hb1 < w2.heap.size := (by omega); have mu0 := hb2.cell (p := ⟨wr.heap.size, 0, none⟩) (by simp); have muf0 := hb2.frozen (p := ⟨wr.heap.size, 0, none⟩) (by simp); have mu1 := hb2.cell (p := ⟨wr.heap.size, 1, none⟩) (by simp); have muf1 := hb2.frozen (p := ⟨wr.heap.size, 1, none⟩) (by simp); have mu2 := hb2.cell (p := ⟨wr.heap.size, 2, none⟩) (by simp); have muf2 := hb2.frozen (p := ⟨wr.heap.size, 2, none⟩) (by simp); have zu : wr.heap.size < w2.heap.size := Nat.lt_of_lt_of_le (by simp) hb2.size)
              | (go_at_call 26; with_reducible refine (members_any gs.length s _ hg5 HS2.out).mono ?_; rintro e w2 ⟨A2, c2, rfl, ho2, hb2⟩; have gm : Below wr.heap.size wr w2 := thru (by first | with_reducible exact (Below.refl _ _).drew | with_reducible exact ((Below.refl _ _).drew).alloc (by simp) _ | with_reducible exact ((Below.refl _ _).alloc (by simp) _).drew) hb2 (by first | omega | (simp; done) | (simp; omega)); have k0 := gm.cell (p := ⟨hb1, 0, none⟩) z1; have k1 := gm.cell (p := ⟨hb1, 1, none⟩) z1; rw [h0] at k0; rw [h1] at k1; have zz2 : wr.heap.size ≤ w2.heap.size := gm.size; have zz1 : hb1 < w2.heap.size := (by omega))
              | (go_at_call 27; with_reducible refine (HSUM.out w2 A2 c2 (thru be (by first | with_reducible exact gm | with_reducible exact gm.alloc zz2 _) (by omega)) (by first | with_reducible exact ho2.rd | with_reducible exact ho2.rd.below (Joins.below_alloc1 _ _))).mono ?_; rintro e w3 ⟨rfl, hb3⟩; have gs3 : Below wr.heap.size wr w3 := thru (by first | with_reducible exact gm | with_reducible exact gm.alloc zz2 _) hb3 (by first | omega | (simp; done) | (simp; omega)); have m0 := gs3.cell (p := ⟨hb1, 0, none⟩) z1; have m1 := gs3.cell (p := ⟨hb1, 1, none⟩) z1; rw [h0] at m0; rw [h1] at m1; have zz3 : hb1 < w3.heap.size := Nat.lt_of_lt_of_le z1 gs3.size; have zz4 : w2.heap.size ≤ w3.heap.size := (by have := hb3.size; first | omega | (simp at this; omega)); have sv0 := hb3.cell (p := ⟨wr.heap.size, 0, none⟩) zu; have svf0 := hb3.frozen (p := ⟨wr.heap.size, 0, none⟩) zu; have sv1 := hb3.cell (p := ⟨wr.heap.size, 1, none⟩) zu; have svf1 := hb3.frozen (p := ⟨wr.heap.size, 1, none⟩) zu; have sv2 := hb3.cell (p := ⟨wr.heap.size, 2, none⟩) zu; have svf2 := hb3.frozen (p := ⟨wr.heap.size, 2, none⟩) zu)
              | (go_at_call 27; with_reducible refine (HSUM.out (World.alloc w2 _) A2 c2 (thru be (by first | with_reducible exact gm | with_reducible exact gm.alloc zz2 _) (by omega)) (by first | with_reducible exact ho2.rd | with_reducible exact ho2.rd.below (Joins.below_alloc1 _ _))).mono ?_; rintro e w3 ⟨rfl, hb3⟩; have gs3 : Below wr.heap.size wr w3 := thru (by first | with_reducible exact gm | with_reducible exact gm.alloc zz2 _) hb3 (by first | omega | (simp; done) | (simp; omega)); have m0 := gs3.cell (p := ⟨hb1, 0, none⟩) z1; have m1 := gs3.cell (p := ⟨hb1, 1, none⟩) z1; rw [h0] at m0; rw [h1] at m1; have zz3 : hb1 < w3.heap.size := Nat.lt_of_lt_of_le z1 gs3.size; have zz4 : w2.heap.size ≤ w3.heap.size := (by have := hb3.size; first | omega | (simp at this; omega)); have sw0 := hb3.cell (p := ⟨w2.heap.size, 0, none⟩) (by simp); have swf0 := hb3.frozen (p := ⟨w2.heap.size, 0, none⟩) (by simp); have sw1 := hb3.cell (p := ⟨w2.heap.size, 1, none⟩) (by simp); have swf1 := hb3.frozen (p := ⟨w2.heap.size, 1, none⟩) (by simp); have sw2 := hb3.cell (p := ⟨w2.heap.size, 2, none⟩) (by simp); have swf2 := hb3.frozen (p := ⟨w2.heap.size, 2, none⟩) (by simp); have zv : w2.heap.size < w3.heap.size := Nat.lt_of_lt_of_le (by simp) hb3.size)
              | (go_at_call 27; with_reducible refine (HSUM.out _ A2 c2 (thru be (by first | with_reducible exact gm | with_reducible exact gm.alloc zz2 _) (by omega)) (by first | with_reducible exact ho2.rd | with_reducible exact ho2.rd.below (Joins.below_alloc1 _ _))).mono ?_; rintro e w3 ⟨rfl, hb3⟩; have gs3 : Below wr.heap.size wr w3 := thru (by first | with_reducible exact gm | with_reducible exact gm.alloc zz2 _) hb3 (by first | omega | (simp; done) | (simp; omega)); have m0 := gs3.cell (p := ⟨hb1, 0, none⟩) z1; have m1 := gs3.cell (p := ⟨hb1, 1, none⟩) z1; rw [h0] at m0; rw [h1] at m1; have zz3 : hb1 < w3.heap.size := Nat.lt_of_lt_of_le z1 gs3.size; have zz4 : w2.heap.size ≤ w3.heap.size := (by have := hb3.size; first | omega | (simp at this; omega))))
            all_goals
              go_wp2_with fail
              go_meet
              first
                | exact ⟨_, w3.heap.size, rfl, rfl, ⟨by simp [go_sem], by simp [go_sem], by simp [go_sem]⟩, by simp, gs3.alloc gs3.size _⟩
                | exact ⟨_, w2.heap.size, rfl, rfl, ⟨by simp [go_sem, sw0], by simp [go_sem, sw1], by simp [go_sem, sw2]⟩, (by first | omega | (simp; done) | (simp; omega)), ((gs3.setCell (by first | omega | (simp; done) | (simp; omega)) _).setCell (by first | omega | (simp; done) | (simp; omega)) _).setCell (by first | omega | (simp; done) | (simp; omega)) _⟩
                | exact ⟨_, wr.heap.size, rfl, rfl, ⟨by simp [go_sem, sv0, mu0], by simp [go_sem, sv1, mu1], by simp [go_sem, sv2, mu2]⟩, (by first | omega | (simp; done) | (simp; omega)), ((gs3.setCell (by first | omega | (simp; done) | (simp; omega)) _).setCell (by first | omega | (simp; done) | (simp; omega)) _).setCell (by first | omega | (simp; done) | (simp; omega)) _⟩
          case rest =>
            obtain ⟨wx, g9, rfl, rfl, ⟨u0, u1, u2⟩, z9, hbx⟩ := hcut
            have HX := Lib.hid (HU.out.below fz0 fz fw hbx)
            obtain ⟨v, hv1, hv2⟩ := HX.out.row
            have HV2 := Lib.hid hv2
            have hzx : w1.heap.size ≤ wx.heap.size := Nat.le_trans HU.out.g.size hbx.size
            have hki : (k : Int) < (hs.length : Int) := by have := HLT.out; omega
            have hBx : w.heap.size < wx.heap.size := by omega
            have hfx := HX.out.fr k
            clear hv2 h0 h1 HSUM be HU
            go_upto_region 9 with fail
            go_region_law (first
              | (refine step_append_lies _ rfl (.tmp 40) (.tmp 42) 85 rfl w1.heap.size 87 i0 _ 3 24 Try.underlying85 HI.out.1 HI.out.2.1 HI.out.2.2.1 HI.out.2.2.2 rfl (by omega) v s (useCells gs (Plan.hAt hs k) s) rfl (HV2.out.alloc _) ⟨wx.heap.size, 0, none⟩ 1 1 [.int .i64 V, .int .i64 X, .int .i64 P] rfl rfl (World.news_of_block (heap_alloc_new wx _)) (by simp [Value.oneCell']) (by omega) (by simp only [maxLen]; omega) (by omega) (by simp; omega) _ rfl ?_; intro g cap w4 hown hgrow hat hlt; have hne : some w.heap.size ≠ v.ownBlock := (fun e => by have := (HV2.out.lt _ e.symm).1; omega); have kc := hgrow.cell_far ⟨w.heap.size, k, none⟩ (by simp; omega) hne; have kf := hgrow.frozen_far ⟨w.heap.size, k, none⟩ (by simp; omega) hne))
            all_goals
              go_wp2
              go_roundw
              case rel =>
                have hown2 : w4.ownsRow w1.heap.size 87 3 (.slice (some ⟨g, 0, none⟩) (s + 1) cap) (s + 1) (useCells gs (Plan.hAt hs k) (s + 1)) := by
                  have h := hown
                  rw [HV.out.1, HV.out.2.1, HV.out.2.2] at h
                  exact h
                exact ⟨s + 1, HSL.out, by go_num, UseRel.step (o := .cells #[.int .i64 V, .int .i64 X, .int .i64 P] 87) HX.out fz0 fz fne fw HV2.out hown2 ⟨hgrow.os, hgrow.tape, hgrow.output, hgrow.size, hgrow.block⟩ ⟨_, kc.trans ((heap_alloc_cell _ _ hBx _).trans hv1)⟩⟩
              case measure => have := HSL.out; simp [intOf]; omega
        · have hse : s = 2 ^ gs.length := by rw [← HN.out]; omega
          have hD := UseRel.done (by rw [← hse]; exact HU.out) H1.out
          have HD := Lib.hid hD
          clear hD hse HU
          go_wp2
          go_roundw
          case rel => exact ⟨k + 1, HLT.out, by go_num, HD.out⟩
          case measure => have := HLT.out; simp [intOf]; omega
    · have hke : k = hs.length := by omega
      have hfin : UsesRel gs hs w.heap.size w hs.length wo := by rw [← hke]; exact HR.out
      have HF := Lib.hid hfin
      clear hfin HR hke
      go_wp2
      go_ret
      exact ⟨rfl, HF.out⟩
end Go.Proofs.Ytljhocdbfbjpiaa
