/-
  The walk of the search, which calls itself.
-/
import Derived.Test.YtljhocdbfbjpiaaPlanTryPlain
import Derived.Laws.CopyOwn
namespace Go.Proofs.Ytljhocdbfbjpiaa
open Go.RowKit

def TryPost (L : Lay) (gs : List Plan.Gun) (hs : List Plan.Hour) (k : Nat) (value left most : Int) (best sets : List Nat) (W : World) (e : Ending) (W' : World) : Prop :=
  e = .returned (.tuple #[]) ∧ (∃ sets', TryV L hs.length W' (Plan.tr gs (hs.drop k) (sets.take k) value left (most, best)).1 (Plan.tr gs (hs.drop k) (sets.take k) value left (most, best)).2 sets' ∧ sets'.take k = sets.take k) ∧ Kept L.own W W'
abbrev tryArgs (L : Lay) (k v l : Int) : Array Value := #[.int .i64 k, .int .i64 v, .int .i64 l, .pointer (some ⟨L.H, 0, none⟩), .pointer (some ⟨L.M, 0, none⟩), .pointer (some ⟨L.Bv, 0, none⟩), .pointer (some ⟨L.Sv, 0, none⟩), .pointer (some ⟨L.T, 0, none⟩), .pointer (some ⟨L.F, 0, none⟩)]
theorem int_size : (Try.prog.info? 3).map (·.size) = some 1 := by kernel_rfl

set_option maxRecDepth 20000 in
set_option maxHeartbeats 8000000 in
theorem try_end (L : Lay) (gs : List Plan.Gun) (hs : List Plan.Hour) (B : Option Addr) (d : Nat) (value left most : Int) (best sets : List Nat) (W : World) (ha : Plan.Acc gs hs)
    (hF : TryF L gs hs B d W) (hV : TryV L hs.length W most best sets) :
    Calls Try.prog 25 (tryArgs L hs.length value left) W (TryPost L gs hs hs.length value left most best sets W) := by
  have hl3 : hs.length ≤ 3 := ha.hl
  unfold TryPost
  rw [List.drop_eq_nil_of_le (Nat.le_refl _), List.take_of_length_le (Nat.le_of_eq hV.sl)]
  have HV := Lib.hid hV
  have HF := Lib.hid hF
  have htk : ∀ l : List Nat, l.length = hs.length → l.take hs.length = l := fun l h => List.take_of_length_le (Nat.le_of_eq h)
  have HTK := Lib.hid htk
  clear htk
  by_cases h : most < value
  · have ht : Plan.tr gs [] sets value left (most, best) = (value, sets) := if_pos h
    rw [ht]
    have hk1 : Kept L.own W (W.setCell ⟨L.M, 0, none⟩ (.int .i64 value)) := (Kept.refl _ _).set (.inl rfl) _
    have HV1 := Lib.hid (hV.most hF.d1 hF.d2 value)
    have HK1 := Lib.hid hk1
    obtain ⟨-, g2, g3, -, -, -, -, -, -, -, -, -⟩ := hF.kept hk1
    have f1 := hF.hv
    have v1 := hV.m
    have v2 := hV.mf
    have e2 : sets.length = hs.length := hV.sl
    have e1 : best.length = hs.length := hV.bl
    have hspl : List.take 0 (best.map nv) ++ (sets.map nv ++ List.drop (0 + (sets.map nv).length) (best.map nv)) = sets.map nv := by
      rw [List.drop_eq_nil_of_le (by simp [e1, e2]), List.append_nil]; rfl
    have hsrc : ∀ j v, (sets.map nv)[j]? = some v → (W.setCell ⟨L.M, 0, none⟩ (.int .i64 value)).cell? ((⟨L.Sb, 0, none⟩ : Addr).add j) = some v := by
      intro j v hj
      rw [Go.WideShapes.add_plain, Nat.zero_add]
      have hjl : j < hs.length := by
        have := (List.getElem?_eq_some_iff.1 hj).1
        simp at this; omega
      rw [HV1.out.s j hjl]
      have hjs : j < sets.length := by omega
      simp [hjs] at hj ⊢
      exact hj
    have HSRC := Lib.hid hsrc
    have HSPL := Lib.hid hspl
    have HD := Lib.hid (And.intro hF.d1 hF.d3)
    have HE := Lib.hid (And.intro e1 e2)
    clear hk1 hV hF ht hsrc hspl e1 e2
    go_enter Try.func25, Try.ntmps25
    go_wp2_with (first
      | (with_reducible refine wpList_copy_own rfl (.tmp 22) (.tmp 23) 28 28 rfl 3 Try.underlying28 int_size L.Bb 0 hs.length hs.length ⟨L.Sb, 0, none⟩ hs.length hs.length rfl rfl (best.map nv).toArray 3 HV1.out.b (sets.map nv) ?hn HSRC.out ?hfit ?h1 ?rest)
      | fail)
    case hn => simpa using HE.out.2
    case hfit =>
      have h1 := HE.out.1
      have h2 := HE.out.2
      simp; omega
    case h1 =>
      intro x hx
      obtain ⟨y, _, rfl⟩ := List.mem_map.1 hx
      rfl
    case rest =>
      go_wp2
      rw [HSPL.out]
      exact bodyPost_ret (results_none rfl _ _ _) rfl ⟨rfl, ⟨sets, HV1.out.better HD.out.1 HD.out.2, HTK.out _ HE.out.2⟩, HK1.out.row (.inr (.inl rfl)) _⟩
  · have ht : Plan.tr gs [] sets value left (most, best) = (most, best) := if_neg h
    rw [ht]
    have f1 := hF.hv
    have v1 := hV.m
    clear ht hV hF
    go_enter Try.func25, Try.ntmps25
    go_wp2
    refine bodyPost_ret (results_none rfl _ _ _) rfl ⟨rfl, ⟨sets, HV.out, HTK.out _ HV.out.sl⟩, Kept.refl _ _⟩
theorem take_set {sets pre : List Nat} {k s : Nat} (hk : k < sets.length) (h : sets.take k = pre) : (sets.set k s).take (k + 1) = pre ++ [s] := by
  have hl : (sets.set k s).length = sets.length := List.length_set
  rw [List.take_succ_eq_append_getElem (by omega), List.take_set_of_le (Nat.le_refl _), h]
  simp
theorem take_le {a b : List Nat} {k : Nat} (h : a.take (k + 1) = b.take (k + 1)) : a.take k = b.take k := by
  have e : ∀ l : List Nat, l.take k = (l.take (k + 1)).take k := fun l => by rw [List.take_take]; congr 1; omega
  rw [e a, e b, h]

set_option maxRecDepth 20000 in
set_option maxHeartbeats 16000000 in
theorem try_any (L : Lay) (gs : List Plan.Gun) (hs : List Plan.Hour) (B : Option Addr) (d : Nat) (ha : Plan.Acc gs hs) :
    ∀ (r k : Nat), k + r = hs.length → ∀ (value left most : Int) (best sets : List Nat) (W : World), TryF L gs hs B d W → TryV L hs.length W most best sets → 0 ≤ value → value ≤ k * 5000000000 → 0 ≤ left → left ≤ 9223372036854775807 →
      Calls Try.prog 25 (tryArgs L k value left) W (TryPost L gs hs k value left most best sets W) := by
  intro r
  induction r with
  | zero =>
    intro k hk value left most best sets W hF hV _ _ _ _
    obtain rfl : k = hs.length := by omega
    exact try_end L gs hs B d value left most best sets W ha hF hV
  | succ r ih0 =>
    intro k hk value left most best sets W hF hV v0 v1 l0 l1
    have ih := ih0 (k + 1) (by omega)
    clear ih0
    have ecast : ((k + 1 : Nat) : Int) = (k : Int) + 1 := by simp
    rw [ecast] at ih
    clear ecast
    have IH := Lib.hid ih
    have hlt : k < hs.length := by omega
    have hl3 : hs.length ≤ 3 := ha.hl
    have hN32 := pow5 ha.gl
    unfold TryPost
    rw [Plan.hdrop hlt, Plan.tr_cons]
    obtain ⟨N, hN⟩ : ∃ N, N = 2 ^ gs.length := ⟨_, rfl⟩
    rw [← hN]
    rw [← hN] at hN32
    obtain ⟨pre, hpre⟩ : ∃ pre, pre = sets.take k := ⟨_, rfl⟩
    rw [← hpre]
    obtain ⟨g, cc, ht1, hg1, hg2, hg3⟩ := hF.tab k hlt
    rw [← hN] at ht1 hg3
    have f1 := hF.hv
    have f2 := hF.tv
    have HF := Lib.hid hF
    have HV := Lib.hid hV
    have HA := Lib.hid ha
    have HN := Lib.hid hN
    have HP := Lib.hid hpre
    have HG := Lib.hid (And.intro hg1 (And.intro hg2 hg3))
    have HLT := Lib.hid hlt
    have HL := Lib.hid (And.intro l0 l1)
    have hki : (k : Int) < (hs.length : Int) := by omega
    have v2 : value ≤ 15000000000 := by omega
    have hkn : ((k : Int) == (hs.length : Int)) = false := beq_eq_false_iff_ne.2 (by omega)
    have HVB := Lib.hid (And.intro v0 v1)
    clear ih ha hF hV hN hpre hg1 hg2 hg3 hk hlt v1
    go_enter Try.func25, Try.ntmps25
    go_wp2
    go_loopw [30] (fun i wr => ∃ (s : Nat) (st : Int × List Nat) (sets' : List Nat), s ≤ N ∧ i = .int .i64 s ∧ TryV L hs.length wr st.1 st.2 sets' ∧ st = Plan.trTo gs (Plan.hAt hs k) (hs.drop (k + 1)) pre value left (most, best) s ∧ sets'.take k = pre ∧ Kept L.own W wr) (fun i _ => N - (intOf i).toNat)
    case atStart => exact ⟨0, (most, best), sets, Nat.zero_le _, rfl, HV.out, rfl, HP.out.symm, Kept.refl _ _⟩
    case round =>
      obtain ⟨s, ⟨m1, b1⟩, sets', hs', rfl, hV', hst, htk, hK⟩ := hrel
      have HV' := Lib.hid hV'
      have HST := Lib.hid hst
      have HTK := Lib.hid htk
      have HK := Lib.hid hK
      clear hV' hst htk hK f1 f2 ht1
      by_cases hsl : s < N
      · have HSL := Lib.hid hsl
        have hF' := HF.out.kept HK.out
        have f1 := hF'.hv
        obtain ⟨b, off, rfl, hbz, hbo, hh0, hh1⟩ := hF'.rd k HLT.out
        obtain ⟨c0, c1, c2⟩ := (HG.out.2.2 s hsl).kept fun i => HK.out.cell (i := i) HG.out.1 HG.out.2.1
        obtain ⟨⟨u0, u1⟩, ⟨u2, u3⟩, ⟨u4, u5⟩⟩ := Plan.u_bd HA.out k s
        have HFIT : Hid (Plan.fit gs (Plan.hAt hs k) left s = (decide (Plan.uW gs s ≤ left) && decide (Plan.uP gs s ≤ (Plan.hAt hs k).power))) := Lib.hid rfl
        have HSTEP := Lib.hid (Plan.trTo_succ gs (Plan.hAt hs k) (hs.drop (k + 1)) pre value left (most, best) s)
        obtain ⟨X, hX⟩ : ∃ X, X = Plan.uW gs s := ⟨_, rfl⟩
        obtain ⟨V, hV⟩ : ∃ V, V = Plan.uV gs (Plan.hAt hs k) s := ⟨_, rfl⟩
        obtain ⟨P, hP⟩ : ∃ P, P = Plan.uP gs s := ⟨_, rfl⟩
        obtain ⟨po, hpo⟩ : ∃ po, po = (Plan.hAt hs k).power := ⟨_, rfl⟩
        have HU := Lib.hid (And.intro hX (And.intro hV (And.intro hP hpo)))
        rw [← hX] at c1 u2 u3
        rw [← hV] at c0 u0 u1
        rw [← hP] at c2 u4 u5
        rw [← hpo] at hh0
        clear hF' hh1 hX hV hP hpo u3 u4 u5
        have hgz : g < wr.heap.size := Nat.lt_of_lt_of_le HG.out.1 HK.out.size
        have hHz : L.H < wr.heap.size := (HF.out.kept HK.out).lt _ (by simp)
        by_cases hx : X ≤ left
        · by_cases hp : P ≤ po
          · have dx : decide (X ≤ left) = true := decide_eq_true hx
            have dp : decide (P ≤ po) = true := decide_eq_true hp
            have hyes : Plan.fit gs (Plan.hAt hs k) left s = true := by rw [HFIT.out, ← HU.out.1, ← HU.out.2.2.1, ← HU.out.2.2.2, dx, dp]; rfl
            have hst2 : Plan.tr gs (hs.drop (k + 1)) (pre ++ [s]) (value + V) (left - X) (m1, b1) = Plan.trTo gs (Plan.hAt hs k) (hs.drop (k + 1)) pre value left (most, best) (s + 1) := by
              rw [HSTEP.out, ← HST.out]; unfold Plan.trStep; rw [if_pos hyes, ← HU.out.1, ← HU.out.2.1]
            have HST2 := Lib.hid hst2
            clear hyes hst2
            have F := HF.out.kept HK.out
            have g1 := F.sv
            have g2 := F.fv
            have s1 := HV'.out.s k HLT.out
            have s2 := HV'.out.sf k
            have z1 : L.Sv < wr.heap.size := F.lt _ (by simp)
            have z2 : L.F < wr.heap.size := F.lt _ (by simp)
            have z3 : L.Sb < wr.heap.size := F.lt _ (by simp)
            have e1 : L.Sv ≠ L.Sb := fun e => F.ne L.Sv (by simp) (.inr (.inr e))
            have e2 : L.F ≠ L.Sb := fun e => F.ne L.F (by simp) (.inr (.inr e))
            have w1 : IntKind.i64.wrap (value + V) = value + V := IntWalk.i64_in _ (by have := u1; omega)
            have w2 : IntKind.i64.wrap (left - X) = left - X := IntWalk.i64_in _ (by have := HL.out; omega)
            unfold nv at s1
            clear F
            go_wp2_with fail
            go_quiet (fail)
            go_wp2_with fail
            have hb := (Joins.below_alloc1 wr (.cells #[.int .i64 V, .int .i64 X, .int .i64 P] 87)).trans (Joins.below_draws wr.heap.size _ nq)
            have hkA := Kept.of_below (S := L.own) hb
            have hk2 := hkA.set (p := ⟨L.Sb, k, none⟩) (.inr (.inr rfl)) (nv s)
            have hV2 := (HV'.out.below ((HF.out.kept HK.out).lt _ (by simp)) ((HF.out.kept HK.out).lt _ (by simp)) ((HF.out.kept HK.out).lt _ (by simp)) hb).choose HF.out.d2 HF.out.d3 HLT.out s
            have hF2 := (HF.out.kept HK.out).kept hk2
            have hpre2 : (sets'.set k s).take (k + 1) = pre ++ [s] := take_set (by rw [HV'.out.sl]; exact HLT.out) HTK.out
            have HPRE := Lib.hid hpre2
            have HK2 := Lib.hid (HK.out.trans hk2)
            have hc := IH.out (value + V) (left - X) m1 b1 (sets'.set k s) _ hF2 hV2 (by omega) (by have := HVB.out.2; omega) (by omega) (by have := HL.out.2; omega)
            have HC := Lib.hid hc
            clear hc hk2 hkA hb hV2 hF2 hpre2 s1 s2 g1 g2 z1 z2 z3 e1 e2 w1 w2 c0 c1 c2 hh0 f1 hHz hgz hbz
            refine HC.out.mono ?_
            rintro e w2 ⟨rfl, ⟨sets2, hV3, ht3⟩, hk3⟩
            rw [HPRE.out, HST2.out] at hV3
            have ht4 : sets2.take k = pre := by
              have h1 := take_le ht3
              rw [h1, List.take_set_of_le (Nat.le_refl _)]
              exact HTK.out
            have HV3 := Lib.hid hV3
            have HT4 := Lib.hid ht4
            have HK3 := Lib.hid (HK2.out.trans hk3)
            clear hV3 ht3 ht4 hk3
            go_wp2
            go_roundw
            case rel => exact ⟨s + 1, _, sets2, HSL.out, by go_num, HV3.out, rfl, HT4.out, HK3.out⟩
            case measure => have := HSL.out; simp [intOf]; omega
          · have dx : decide (X ≤ left) = true := decide_eq_true hx
            have dp : decide (P ≤ po) = false := decide_eq_false hp
            have hno : Plan.fit gs (Plan.hAt hs k) left s = false := by rw [HFIT.out, ← HU.out.1, ← HU.out.2.2.1, ← HU.out.2.2.2, dx, dp]; rfl
            have hst2 : (m1, b1) = Plan.trTo gs (Plan.hAt hs k) (hs.drop (k + 1)) pre value left (most, best) (s + 1) := by
              rw [HSTEP.out, ← HST.out]; unfold Plan.trStep; rw [if_neg (by rw [hno]; decide)]
            have HST2 := Lib.hid hst2
            clear hno hst2
            go_wp2_with fail
            go_quiet (fail)
            go_wp2
            go_roundw
            case rel =>
              have hb := (Joins.below_alloc1 wr (.cells #[.int .i64 V, .int .i64 X, .int .i64 P] 87)).trans (Joins.below_draws wr.heap.size _ nq)
              exact ⟨s + 1, (m1, b1), sets', HSL.out, by go_num, HV'.out.below ((HF.out.kept HK.out).lt _ (by simp)) ((HF.out.kept HK.out).lt _ (by simp)) ((HF.out.kept HK.out).lt _ (by simp)) hb, HST2.out, HTK.out, HK.out.trans (Kept.of_below hb)⟩
            case measure => have := HSL.out; simp [intOf]; omega
        · have dx : decide (X ≤ left) = false := decide_eq_false hx
          have hno : Plan.fit gs (Plan.hAt hs k) left s = false := by rw [HFIT.out, ← HU.out.1, dx]; rfl
          have hst2 : (m1, b1) = Plan.trTo gs (Plan.hAt hs k) (hs.drop (k + 1)) pre value left (most, best) (s + 1) := by
            rw [HSTEP.out, ← HST.out]; unfold Plan.trStep; rw [if_neg (by rw [hno]; decide)]
          have HST2 := Lib.hid hst2
          clear hno hst2
          go_wp2_with fail
          go_quiet (fail)
          go_wp2
          go_roundw
          case rel =>
            have hb := (Joins.below_alloc1 wr (.cells #[.int .i64 V, .int .i64 X, .int .i64 P] 87)).trans (Joins.below_draws wr.heap.size _ nq)
            exact ⟨s + 1, (m1, b1), sets', HSL.out, by go_num, HV'.out.below ((HF.out.kept HK.out).lt _ (by simp)) ((HF.out.kept HK.out).lt _ (by simp)) ((HF.out.kept HK.out).lt _ (by simp)) hb, HST2.out, HTK.out, HK.out.trans (Kept.of_below hb)⟩
          case measure => have := HSL.out; simp [intOf]; omega
      · have hse : s = N := by omega
        have hfin : (m1, b1) = Plan.trTo gs (Plan.hAt hs k) (hs.drop (k + 1)) pre value left (most, best) N := by rw [← hse]; exact HST.out
        have HFIN := Lib.hid hfin
        clear hfin hse
        go_wp2
        refine bodyPost_end (results_none rfl _ _ _) rfl ⟨rfl, ⟨sets', ?_, HTK.out⟩, HK.out⟩
        rw [← HFIN.out]; exact HV'.out
end Go.Proofs.Ytljhocdbfbjpiaa
