/-
  The draws of the guns that are on: their node, and what their kind delivers.
-/
import Derived.Test.YtljhocdbfbjpiaaWtGunP
import Derived.Deep.DeepCutAuto
import Derived.Deep.AppendLies
namespace Go.Proofs.Ytljhocdbfbjpiaa
open Go.RowKit

/-- The draws of the first n guns. -/
def drL (K : KK) (m : Nat) (g : Nat → Nat → Int) (wet : Int) : Nat → List (Int × Int)
  | 0 => []
  | n + 1 => if g n 4 = 1 then drL K m g wet n ++ [(g n 1, outV (kPs K (kFirst K (g n 3) m)) wet)] else drL K m g wet n
theorem drL_len (K : KK) (m : Nat) (g : Nat → Nat → Int) (wet : Int) : ∀ n, (drL K m g wet n).length ≤ n
  | 0 => by simp [drL]
  | n + 1 => by
    have := drL_len K m g wet n
    rw [drL]
    split
    · simp; omega
    · omega
def drC (l : List (Int × Int)) : List Value := l.flatMap fun p => [.int .i64 p.1, .int .i64 p.2]
theorem drC_len (l : List (Int × Int)) : (drC l).length = l.length * 2 := by
  induction l with
  | nil => rfl
  | cons p r ih => simp [drC] at ih ⊢; omega
theorem drC_snoc (l : List (Int × Int)) (x y : Int) : drC (l ++ [(x, y)]) = drC l ++ [.int .i64 x, .int .i64 y] := by simp [drC]
theorem drC_at : ∀ (l : List (Int × Int)) (i : Nat), i < l.length → (drC l)[i * 2]? = some (.int .i64 (Fix.px l i)) ∧ (drC l)[i * 2 + 1]? = some (.int .i64 (Fix.py l i))
  | [], i, h => absurd h (by simp)
  | p :: r, 0, _ => by simp [drC]
  | p :: r, i + 1, h => by
    have := drC_at r i (by simpa using h)
    have e : drC (p :: r) = .int .i64 p.1 :: .int .i64 p.2 :: drC r := by simp [drC]
    rw [e, show (i + 1) * 2 = i * 2 + 2 by omega, show i * 2 + 2 + 1 = i * 2 + 1 + 2 by omega]
    simpa using this
theorem RdP.of_owns {w : World} {base n c : Nat} {e : TypeId} {A : Option Addr} {l : List (Int × Int)} (h : w.ownsRow base e 2 (.slice A n c) n (drC l)) : RdP w A l := fun hp => by
  have hn : n = l.length := by have := h.1; rw [drC_len] at this; omega
  subst hn
  rcases h.2 with ⟨_, h0⟩ | ⟨g, c, cur, hv, hb, hg, hr⟩
  · omega
  · injection hv with hv
    subst hv
    have hc := h.cells (g := g) rfl
    have hlt := h.lt g rfl
    refine ⟨g, 0, rfl, hlt.2, fun i hi => ?_⟩
    obtain ⟨h1, h2⟩ := drC_at l i hi
    have e1 := hc (i * 2) _ h1
    have e2 := hc (i * 2 + 1) _ h2
    rw [Go.WideShapes.add_plain] at e1 e2
    rw [Nat.zero_add] at e1 e2
    rw [Nat.zero_add]
    exact ⟨e1, e2⟩
theorem RdP.nil (w : World) (A : Option Addr) : RdP w A [] := fun h => absurd h (by simp)
theorem owns_below {w w' : World} {B n z : Nat} {t : TypeId} {v : Value} {xs : List Value} (h : w.ownsRow B t z v n xs) (hb : Below w.heap.size w w') : w'.ownsRow B t z v n xs := by
  refine ⟨h.1, ?_⟩
  rcases h.2 with h0 | ⟨g, cap, cur, hv, hB, hh, r⟩
  · exact .inl h0
  · refine .inr ⟨g, cap, cur, hv, hB, ?_, r⟩
    have hlt : g < w.heap.size := by
      rcases Nat.lt_or_ge g w.heap.size with h | h
      · exact h
      · rw [Array.getElem?_eq_none h] at hh; cases hh
    exact (hb.block g hlt).trans hh
theorem owns_slice {w : World} {B n z : Nat} {t : TypeId} {v : Value} {xs : List Value} (h : w.ownsRow B t z v n xs) : ∃ A c, v = .slice A n c := by
  rcases h.2 with ⟨h0, h1⟩ | ⟨g, cap, cur, hv, _⟩
  · exact ⟨none, 0, by rw [h0, h1]⟩
  · exact ⟨_, _, hv⟩
/-- The first kind with an identifier, as a value. -/
theorem kV_pts (K : KK) (x : Int) (m : Nat) : ∃ i A c pr, kV K (kFirst K x m) = .agg #[.int .i64 i, .slice A (kPs K (kFirst K x m)).length c, .int .i64 (kPw K (kFirst K x m)), .int .i64 pr] ∧ ∀ w B, RdK w B m K → RdP w A (kPs K (kFirst K x m)) := by
  cases h : kFirst K x m with
  | none => exact ⟨0, none, 0, 0, rfl, fun w B _ => RdP.nil w _⟩
  | some i => exact ⟨K.id i, K.A i, K.c i, K.pr i, rfl, fun w B hr => hr.pts (kFirst_spec h).1⟩
theorem draw_info : (Try.prog.info? 53).map (fun i => (i.zero, i.size, i.bytes)) = some (some (.agg #[.int .i64 0, .int .i64 0]), 2, 16) := by kernel_rfl

theorem heap_alloc_cell (w : World) (o : Obj) {b : Nat} (hb : b < w.heap.size) (k : Nat) : (w.alloc o).cell? ⟨b, k, none⟩ = w.cell? ⟨b, k, none⟩ := (Joins.below_alloc1 w o).cell (p := ⟨b, k, none⟩) hb
set_option maxRecDepth 20000 in
set_option maxHeartbeats 4000000 in
theorem draws_any (m n cm cn : Nat) (K : KK) (g : Nat → Nat → Int) (wet : Int) (A B : Option Addr) (w : World) (hK : RdK w A m K) (hG : RI w B 8 n g) (hm : m ≤ 1000) (hn : n ≤ 1000) :
    Calls Try.prog 14 #[.slice A m cm, .slice B n cn, .int .i64 wet] w fun e w' => (∃ D c, e = .returned (.slice D (drL K m g wet n).length c) ∧ RdP w' D (drL K m g wet n)) ∧ Below w.heap.size w w' := by
  have HK := Lib.hid hK
  have HG := Lib.hid hG
  have HM := Lib.hid hm
  have HLEN := Lib.hid (drL_len K m g wet)
  have hni : (n : Int) ≤ 1000 := by omega
  clear hK hG hm
  obtain ⟨i0, hi0, hz0, hz1, hz2⟩ := info_parts draw_info
  have HI := Lib.hid (And.intro hi0 (And.intro hz0 (And.intro hz1 hz2)))
  clear hi0 hz0 hz1 hz2
  go_enter Try.func14, Try.ntmps14
  go_wp2
  go_loopw [7, 12] (fun v i wr => ∃ k : Nat, k ≤ n ∧ i = .int .i64 k ∧ Hid (wr.ownsRow w.heap.size 53 2 v (drL K m g wet k).length (drC (drL K m g wet k))) ∧ Below w.heap.size w wr) (fun _ i _ => n - (intOf i).toNat)
  case atStart => exact ⟨0, Nat.zero_le _, rfl, Lib.hid (World.ownsRow_nil _ _ _ _), Below.refl _ _⟩
  case round =>
    obtain ⟨k, hk, rfl, HO, hb⟩ := hrel
    have HB := Lib.hid hb
    by_cases hlt : k < n
    · have hlti : (k : Int) < (n : Int) := by omega
      obtain ⟨b, off, rfl, hbz, hc⟩ := (HG.out.below hb).at_ hlt
      have c0 := hc 0 (by omega)
      have c1 := hc 1 (by omega)
      have c2 := hc 2 (by omega)
      have c3 := hc 3 (by omega)
      have c4 := hc 4 (by omega)
      have c5 := hc 5 (by omega)
      have c6 := hc 6 (by omega)
      have c7 := hc 7 (by omega)
      rw [Nat.add_zero] at c0
      obtain ⟨z1, hz1⟩ : ∃ z, z = g k 1 := ⟨_, rfl⟩
      obtain ⟨z3, hz3⟩ : ∃ z, z = g k 3 := ⟨_, rfl⟩
      obtain ⟨z4, hz4⟩ : ∃ z, z = g k 4 := ⟨_, rfl⟩
      rw [← hz1] at c1
      rw [← hz3] at c3
      rw [← hz4] at c4
      have hst : drL K m g wet (k + 1) = if z4 = 1 then drL K m g wet k ++ [(z1, outV (kPs K (kFirst K z3 m)) wet)] else drL K m g wet k := by rw [hz1, hz3, hz4]; rfl
      have HST := Lib.hid hst
      have HLT := Lib.hid hlt
      have hbs := hb.size
      have HBA := Lib.hid (Joins.below_alloc1 wr (.cells #[.int .i64 (g k 0), .int .i64 z1, .int .i64 (g k 2), .int .i64 z3, .int .i64 z4, .int .i64 (g k 5), .int .i64 (g k 6), .int .i64 (g k 7)] 51))
      clear hb hc hst hlt hz1 hz3 hz4
      by_cases hon : z4 = 1
      · have hon2 : (z4 == 1) = true := beq_iff_eq.2 hon
        obtain ⟨i', A', c', pr', hkv, hkp⟩ := kV_pts K z3 m
        obtain ⟨O, hO⟩ : ∃ O, O = outV (kPs K (kFirst K z3 m)) wet := ⟨_, rfl⟩
        have HV : Hid (drL K m g wet (k + 1) = drL K m g wet k ++ [(z1, O)]) := Lib.hid (by rw [HST.out, if_pos hon, hO])
        obtain ⟨P, hP⟩ : ∃ P, P = kPw K (kFirst K z3 m) := ⟨_, rfl⟩
        obtain ⟨q, hq⟩ : ∃ q, q = kPs K (kFirst K z3 m) := ⟨_, rfl⟩
        rw [← hP, ← hq] at hkv
        rw [← hq] at hkp hO
        have HKC : Hid (∀ W, Below w.heap.size w W → Calls Try.prog 43 #[.slice A m cm, .int .i64 z3] W fun e w' => e = .returned (.agg #[.int .i64 i', .slice A' q.length c', .int .i64 P, .int .i64 pr']) ∧ Below W.heap.size W w') := Lib.hid fun W hW => by
          have := kind_any m cm K z3 A W (HK.out.below hW) HM.out
          rw [hkv] at this
          exact this
        have HOC : Hid (∀ W, Below w.heap.size w W → Calls Try.prog 42 #[.agg #[.int .i64 i', .slice A' q.length c', .int .i64 P, .int .i64 pr'], .int .i64 wet] W fun e w' => e = .returned (.int .i64 O) ∧ Below W.heap.size W w') := Lib.hid fun W hW => by
          have := output_any i' P pr' wet A' c' q W (hkp W A (HK.out.below hW))
          rw [← hO] at this
          exact this
        have hlen := HLEN.out k
        clear hkv hkp hO hP hq hon
        go_upto_region 6 with fail
        have h1 : (wr.alloc (.cells #[.int .i64 (g k 0), .int .i64 z1, .int .i64 (g k 2), .int .i64 z3, .int .i64 z4, .int .i64 (g k 5), .int .i64 (g k 6), .int .i64 (g k 7)] 51)).cell? ⟨wr.heap.size, 1, none⟩ = some (.int .i64 z1) := by simp [go_sem]
        have h3 : (wr.alloc (.cells #[.int .i64 (g k 0), .int .i64 z1, .int .i64 (g k 2), .int .i64 z3, .int .i64 z4, .int .i64 (g k 5), .int .i64 (g k 6), .int .i64 (g k 7)] 51)).cell? ⟨wr.heap.size, 3, none⟩ = some (.int .i64 z3) := by simp [go_sem]
        have hz : wr.heap.size < (wr.alloc (.cells #[.int .i64 (g k 0), .int .i64 z1, .int .i64 (g k 2), .int .i64 z3, .int .i64 z4, .int .i64 (g k 5), .int .i64 (g k 6), .int .i64 (g k 7)] 51)).heap.size := by simp
        have HO1 := Lib.hid (owns_below HO.out HBA.out)
        have HB1 := Lib.hid (thru HB.out HBA.out HB.out.size)
        have HNE : Hid (some wr.heap.size ≠ u7.ownBlock) := Lib.hid fun e => by
          have := (HO.out.lt _ e.symm).2
          omega
        clear c0 c1 c2 c3 c4 c5 c6 c7 HBA HST hbz HO HB
        generalize wr.alloc (.cells #[.int .i64 (g k 0), .int .i64 z1, .int .i64 (g k 2), .int .i64 z3, .int .i64 z4, .int .i64 (g k 5), .int .i64 (g k 6), .int .i64 (g k 7)] 51) = w1 at *
        generalize wr.heap.size = hb1 at *
        go_region_held3 (fun w' => w'.cell? ⟨hb1, 1, none⟩ = some (.int .i64 z1) ∧ w'.cell? ⟨hb1, 3, none⟩ = some (.int .i64 z3)) (first | with_reducible exact ⟨h1, h3⟩ | with_reducible exact ⟨k1, k3⟩ | with_reducible exact ⟨m1, m3⟩ | with_reducible exact ⟨q1, q3⟩ | (simp [go_sem, m1, m3, zz3]; done) | (simp [go_sem, h1, h3]; done)) (first
          | (go_at_call 43; with_reducible refine (HKC.out _ (by first | exact HB1.out | exact HB1.out.drew)).mono ?_; rintro e w2 ⟨rfl, hb2⟩; have b2 : Below w.heap.size w w2 := thru (by first | exact HB1.out | exact HB1.out.drew) hb2 (by first | exact HB1.out.size | (simp; exact HB1.out.size)); have zz1 : hb1 < w2.heap.size := Nat.lt_of_lt_of_le (by first | exact hz | (simp; exact hz)) hb2.size; have k1 := (hb2.cell (p := ⟨hb1, 1, none⟩) (by first | exact hz | (simp; exact hz))).trans (by first | exact h1 | simpa [go_sem] using h1); have k3 := (hb2.cell (p := ⟨hb1, 3, none⟩) (by first | exact hz | (simp; exact hz))).trans (by first | exact h3 | simpa [go_sem] using h3))
          | (go_at_call 42; with_reducible refine (HOC.out w2 b2).mono ?_; rintro e w3 ⟨rfl, hb3⟩; have b3 := thru b2 hb3 b2.size; have zz3 : hb1 < w3.heap.size := Nat.lt_of_lt_of_le zz1 hb3.size; have m1 := hb3.cell (p := ⟨hb1, 1, none⟩) zz1; have m3 := hb3.cell (p := ⟨hb1, 3, none⟩) zz1; rw [k1] at m1; rw [k3] at m3; have ho3 := owns_below HO1.out (thru (by first | exact Below.refl _ _ | exact (Below.refl _ _).drew) (hb2.trans (hb3.mono hb2.size)) (Nat.le_refl _)))
          | (have hq := ho3.alloc (.cells #[.int .i64 z1, .int .i64 O] 53); have hs : w.heap.size ≤ (w3.alloc (.cells #[.int .i64 z1, .int .i64 O] 53)).heap.size := (by have := b3.size; simp; omega); have hnw := World.news_of_block (heap_alloc_new w3 (.cells #[.int .i64 z1, .int .i64 O] 53)); refine step_append_lies _ rfl (.tmp 19) (.tmp 29) 48 rfl w.heap.size 53 i0 _ 2 16 Try.underlying48 HI.out.1 HI.out.2.1 HI.out.2.2.1 HI.out.2.2.2 rfl (by omega) u7 (drL K m g wet k).length (drC (drL K m g wet k)) rfl hq ⟨w3.heap.size, 0, none⟩ 1 1 [.int .i64 z1, .int .i64 O] rfl rfl hnw (by simp [Value.oneCell']) (by omega) (by simp only [maxLen]; omega) (by omega) hs _ rfl ?_; intro G cap w4 hown hgrow hat hlt; have zq : hb1 < (w3.alloc (.cells #[.int .i64 z1, .int .i64 O] 53)).heap.size := Nat.lt_of_lt_of_le zz3 (by simp); have q1 := (hgrow.cell_far ⟨hb1, 1, none⟩ zq HNE.out).trans ((heap_alloc_cell w3 _ zz3 1).trans m1); have q3 := (hgrow.cell_far ⟨hb1, 3, none⟩ zq HNE.out).trans ((heap_alloc_cell w3 _ zz3 3).trans m3)))
        have HOW : Hid (w4.ownsRow w.heap.size 53 2 (.slice (some ⟨G, 0, none⟩) ((drL K m g wet k).length + 1) cap) (drL K m g wet (k + 1)).length (drC (drL K m g wet (k + 1)))) := Lib.hid (by
          rw [HV.out, List.length_append, drC_snoc]
          exact hown)
        have HBW : Hid (Below w.heap.size w w4) := Lib.hid ((b3.alloc b3.size _).grown hgrow hs (fun j hj => (ho3.lt j hj).1))
        clear hown hgrow hat hnw hq ho3 b3 b2 hb3 hb2 q1 q3 m1 m3 k1 k3 h1 h3
        go_wp2
        go_roundw
        case rel => exact ⟨k + 1, HLT.out, by go_num, HOW, HBW.out⟩
        case measure => have := HLT.out; simp [intOf]; omega
      · have hon2 : (z4 == 1) = false := beq_eq_false_iff_ne.2 hon
        have HV : Hid (drL K m g wet (k + 1) = drL K m g wet k) := Lib.hid (by rw [HST.out, if_neg hon])
        clear hon
        go_wp2
        go_roundw
        case rel => exact ⟨k + 1, HLT.out, by go_num, Lib.hid (by rw [HV.out]; exact owns_below HO.out HBA.out), thru HB.out HBA.out HB.out.size⟩
        case measure => have := HLT.out; simp [intOf]; omega
    · have hlti : decide ((k : Int) < (n : Int)) = false := decide_eq_false (by omega)
      have hke : k = n := by omega
      have HE : Hid (wr.ownsRow w.heap.size 53 2 u7 (drL K m g wet n).length (drC (drL K m g wet n))) := Lib.hid (by rw [← hke]; exact HO.out)
      obtain ⟨D, c, rfl⟩ := owns_slice HE.out
      clear hb HO hke
      go_wp2
      go_ret
      exact ⟨⟨D, c, rfl, RdP.of_owns HE.out⟩, HB.out⟩
end Go.Proofs.Ytljhocdbfbjpiaa
