/-
  The needs of the guns that are on: their node, and the pressure of their kind.
-/
import Derived.Test.YtljhocdbfbjpiaaWtDraws
namespace Go.Proofs.Ytljhocdbfbjpiaa
open Go.RowKit

def kPr (K : KK) : Option Nat → Int
  | some i => K.pr i
  | none => 0
def neL (K : KK) (m : Nat) (g : Nat → Nat → Int) : Nat → List (Int × Int)
  | 0 => []
  | n + 1 => if g n 4 = 1 then neL K m g n ++ [(g n 1, kPr K (kFirst K (g n 3) m))] else neL K m g n
theorem neL_len (K : KK) (m : Nat) (g : Nat → Nat → Int) : ∀ n, (neL K m g n).length ≤ n
  | 0 => by simp [neL]
  | n + 1 => by
    have := neL_len K m g n
    rw [neL]
    split
    · simp; omega
    · omega
theorem kV_press (K : KK) (o : Option Nat) : ∃ i A n c P, kV K o = .agg #[.int .i64 i, .slice A n c, .int .i64 P, .int .i64 (kPr K o)] := by
  cases o with
  | none => exact ⟨0, none, 0, 0, 0, rfl⟩
  | some i => exact ⟨K.id i, K.A i, (K.p i).length, K.c i, K.pw i, rfl⟩

@[go_sem] theorem field_kind3 (w : World) (v0 v1 v2 v3 : Value) : (Instr.field 44 (.agg #[v0, v1, v2, v3]) 3).run Try.prog w = .ok v3 w := by
  unfold Instr.field
  kernel_rfl
set_option maxRecDepth 20000 in
set_option maxHeartbeats 4000000 in
theorem needs_any (m n cm cn : Nat) (K : KK) (g : Nat → Nat → Int) (A B : Option Addr) (w : World) (hK : RdK w A m K) (hG : RI w B 8 n g) (hm : m ≤ 1000) (hn : n ≤ 1000) :
    Calls Try.prog 63 #[.slice A m cm, .slice B n cn] w fun e w' => (∃ D c, e = .returned (.slice D (neL K m g n).length c) ∧ RdP w' D (neL K m g n)) ∧ Below w.heap.size w w' := by
  have HK := Lib.hid hK
  have HG := Lib.hid hG
  have HM := Lib.hid hm
  have HLEN := Lib.hid (neL_len K m g)
  have hni : (n : Int) ≤ 1000 := by omega
  clear hK hG hm
  obtain ⟨i0, hi0, hz0, hz1, hz2⟩ := info_parts draw_info
  have HI := Lib.hid (And.intro hi0 (And.intro hz0 (And.intro hz1 hz2)))
  clear hi0 hz0 hz1 hz2
  go_enter Try.func63, Try.ntmps63
  go_wp2
  go_loopw [5, 10] (fun v i wr => ∃ k : Nat, k ≤ n ∧ i = .int .i64 k ∧ Hid (wr.ownsRow w.heap.size 53 2 v (neL K m g k).length (drC (neL K m g k))) ∧ Below w.heap.size w wr) (fun _ i _ => n - (intOf i).toNat)
  case atStart => exact ⟨0, Nat.zero_le _, rfl, Lib.hid (World.ownsRow_nil _ _ _ _), Below.refl _ _⟩
  case round =>
    obtain ⟨k, hk, rfl, HO, hb⟩ := hrel
    have HB := Lib.hid hb
    by_cases hlt : k < n
    · have hlti : (k : Int) < (n : Int) := by omega
      obtain ⟨b, off, rfl, hbz, hc⟩ := (HG.out.below hb).at_ hlt
      have c0 := hc 0 (by omega)
      have c1 := hc 1 (by omega)
      have c2 := hc 2 (by omega)
      have c3 := hc 3 (by omega)
      have c4 := hc 4 (by omega)
      have c5 := hc 5 (by omega)
      have c6 := hc 6 (by omega)
      have c7 := hc 7 (by omega)
      rw [Nat.add_zero] at c0
      obtain ⟨z1, hz1⟩ : ∃ z, z = g k 1 := ⟨_, rfl⟩
      obtain ⟨z3, hz3⟩ : ∃ z, z = g k 3 := ⟨_, rfl⟩
      obtain ⟨z4, hz4⟩ : ∃ z, z = g k 4 := ⟨_, rfl⟩
      rw [← hz1] at c1
      rw [← hz3] at c3
      rw [← hz4] at c4
      have hst : neL K m g (k + 1) = if z4 = 1 then neL K m g k ++ [(z1, kPr K (kFirst K z3 m))] else neL K m g k := by rw [hz1, hz3, hz4]; rfl
      have HST := Lib.hid hst
      have HLT := Lib.hid hlt
      have hbs := hb.size
      have HBA := Lib.hid (Joins.below_alloc1 wr (.cells #[.int .i64 (g k 0), .int .i64 z1, .int .i64 (g k 2), .int .i64 z3, .int .i64 z4, .int .i64 (g k 5), .int .i64 (g k 6), .int .i64 (g k 7)] 51))
      clear hb hc hst hlt hz1 hz3 hz4
      by_cases hon : z4 = 1
      · have hon2 : (z4 == 1) = true := beq_iff_eq.2 hon
        obtain ⟨i', A', n', c', P, hkv⟩ := kV_press K (kFirst K z3 m)
        obtain ⟨O, hO⟩ : ∃ O, O = kPr K (kFirst K z3 m) := ⟨_, rfl⟩
        have HV : Hid (neL K m g (k + 1) = neL K m g k ++ [(z1, O)]) := Lib.hid (by rw [HST.out, if_pos hon, hO])
        rw [← hO] at hkv
        have HKC : Hid (∀ W, Below w.heap.size w W → Calls Try.prog 43 #[.slice A m cm, .int .i64 z3] W fun e w' => e = .returned (.agg #[.int .i64 i', .slice A' n' c', .int .i64 P, .int .i64 O]) ∧ Below W.heap.size W w') := Lib.hid fun W hW => by
          have := kind_any m cm K z3 A W (HK.out.below hW) HM.out
          rw [hkv] at this
          exact this
        have hlen := HLEN.out k
        clear hkv hO hon
        go_upto_region 6 with fail
        have h1 : (wr.alloc (.cells #[.int .i64 (g k 0), .int .i64 z1, .int .i64 (g k 2), .int .i64 z3, .int .i64 z4, .int .i64 (g k 5), .int .i64 (g k 6), .int .i64 (g k 7)] 51)).cell? ⟨wr.heap.size, 1, none⟩ = some (.int .i64 z1) := by simp [go_sem]
        have h3 : (wr.alloc (.cells #[.int .i64 (g k 0), .int .i64 z1, .int .i64 (g k 2), .int .i64 z3, .int .i64 z4, .int .i64 (g k 5), .int .i64 (g k 6), .int .i64 (g k 7)] 51)).cell? ⟨wr.heap.size, 3, none⟩ = some (.int .i64 z3) := by simp [go_sem]
        have hz : wr.heap.size < (wr.alloc (.cells #[.int .i64 (g k 0), .int .i64 z1, .int .i64 (g k 2), .int .i64 z3, .int .i64 z4, .int .i64 (g k 5), .int .i64 (g k 6), .int .i64 (g k 7)] 51)).heap.size := by simp
        have HO1 := Lib.hid (owns_below HO.out HBA.out)
        have HB1 := Lib.hid (thru HB.out HBA.out HB.out.size)
        have HNE : Hid (some wr.heap.size ≠ u5.ownBlock) := Lib.hid fun e => by
          have := (HO.out.lt _ e.symm).2
          omega
        clear c0 c1 c2 c3 c4 c5 c6 c7 HBA HST hbz HO HB
        generalize wr.alloc (.cells #[.int .i64 (g k 0), .int .i64 z1, .int .i64 (g k 2), .int .i64 z3, .int .i64 z4, .int .i64 (g k 5), .int .i64 (g k 6), .int .i64 (g k 7)] 51) = w1 at *
        generalize wr.heap.size = hb1 at *
        go_region_held3 (fun w' => w'.cell? ⟨hb1, 1, none⟩ = some (.int .i64 z1) ∧ w'.cell? ⟨hb1, 3, none⟩ = some (.int .i64 z3)) (first | with_reducible exact ⟨h1, h3⟩ | with_reducible exact ⟨k1, k3⟩ | with_reducible exact ⟨k1, k3⟩ | with_reducible exact ⟨q1, q3⟩ | (simp [go_sem, k1, k3, zz1]; done) | (simp [go_sem, h1, h3]; done)) (first
          | (go_at_call 43; with_reducible refine (HKC.out _ (by first | exact HB1.out | exact HB1.out.drew)).mono ?_; rintro e w2 ⟨rfl, hb2⟩; have b2 : Below w.heap.size w w2 := thru (by first | exact HB1.out | exact HB1.out.drew) hb2 (by first | exact HB1.out.size | (simp; exact HB1.out.size)); have zz1 : hb1 < w2.heap.size := Nat.lt_of_lt_of_le (by first | exact hz | (simp; exact hz)) hb2.size; have k1 := (hb2.cell (p := ⟨hb1, 1, none⟩) (by first | exact hz | (simp; exact hz))).trans (by first | exact h1 | simpa [go_sem] using h1); have k3 := (hb2.cell (p := ⟨hb1, 3, none⟩) (by first | exact hz | (simp; exact hz))).trans (by first | exact h3 | simpa [go_sem] using h3); have ho3 := owns_below HO1.out (thru (by first | exact Below.refl _ _ | exact (Below.refl _ _).drew) hb2 (Nat.le_refl _)))
          | (have hq := ho3.alloc (.cells #[.int .i64 z1, .int .i64 O] 53); have hs : w.heap.size ≤ (w2.alloc (.cells #[.int .i64 z1, .int .i64 O] 53)).heap.size := (by have := b2.size; simp; omega); have hnw := World.news_of_block (heap_alloc_new w2 (.cells #[.int .i64 z1, .int .i64 O] 53)); refine step_append_lies _ rfl (.tmp 17) (.tmp 26) 48 rfl w.heap.size 53 i0 _ 2 16 Try.underlying48 HI.out.1 HI.out.2.1 HI.out.2.2.1 HI.out.2.2.2 rfl (by omega) u5 (neL K m g k).length (drC (neL K m g k)) rfl hq ⟨w2.heap.size, 0, none⟩ 1 1 [.int .i64 z1, .int .i64 O] rfl rfl hnw (by simp [Value.oneCell']) (by omega) (by simp only [maxLen]; omega) (by omega) hs _ rfl ?_; intro G cap w4 hown hgrow hat hlt; have zq : hb1 < (w2.alloc (.cells #[.int .i64 z1, .int .i64 O] 53)).heap.size := Nat.lt_of_lt_of_le zz1 (by simp); have q1 := (hgrow.cell_far ⟨hb1, 1, none⟩ zq HNE.out).trans ((heap_alloc_cell w2 _ zz1 1).trans k1); have q3 := (hgrow.cell_far ⟨hb1, 3, none⟩ zq HNE.out).trans ((heap_alloc_cell w2 _ zz1 3).trans k3)))
        have HOW : Hid (w4.ownsRow w.heap.size 53 2 (.slice (some ⟨G, 0, none⟩) ((neL K m g k).length + 1) cap) (neL K m g (k + 1)).length (drC (neL K m g (k + 1)))) := Lib.hid (by
          rw [HV.out, List.length_append, drC_snoc]
          exact hown)
        have HBW : Hid (Below w.heap.size w w4) := Lib.hid ((b2.alloc b2.size _).grown hgrow hs (fun j hj => (ho3.lt j hj).1))
        clear hown hgrow hat hnw hq ho3 b2 hb2 q1 q3 k1 k3 h1 h3
        go_wp2
        go_roundw
        case rel => exact ⟨k + 1, HLT.out, by go_num, HOW, HBW.out⟩
        case measure => have := HLT.out; simp [intOf]; omega
      · have hon2 : (z4 == 1) = false := beq_eq_false_iff_ne.2 hon
        have HV : Hid (neL K m g (k + 1) = neL K m g k) := Lib.hid (by rw [HST.out, if_neg hon])
        clear hon
        go_wp2
        go_roundw
        case rel => exact ⟨k + 1, HLT.out, by go_num, Lib.hid (by rw [HV.out]; exact owns_below HO.out HBA.out), thru HB.out HBA.out HB.out.size⟩
        case measure => have := HLT.out; simp [intOf]; omega
    · have hlti : decide ((k : Int) < (n : Int)) = false := decide_eq_false (by omega)
      have hke : k = n := by omega
      have HE : Hid (wr.ownsRow w.heap.size 53 2 u5 (neL K m g n).length (drC (neL K m g n))) := Lib.hid (by rw [← hke]; exact HO.out)
      obtain ⟨D, c, rfl⟩ := owns_slice HE.out
      clear hb HO hke
      go_wp2
      go_ret
      exact ⟨⟨D, c, rfl, RdP.of_owns HE.out⟩, HB.out⟩
end Go.Proofs.Ytljhocdbfbjpiaa
