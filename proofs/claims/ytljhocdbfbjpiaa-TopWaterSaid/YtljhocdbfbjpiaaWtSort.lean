/-
  The order of the rests: whatever the sort does, its elements stay indices.
-/
import Derived.Test.YtljhocdbfbjpiaaWtCheck
import Derived.Test.YtljhocdbfbjpiaaWtPumpB
import Derived.Test.YtljhocdbfbjpiaaPtsWalkC
import Derived.Deep.DeepCutAuto
namespace Go.Proofs.Ytljhocdbfbjpiaa
open Go.RowKit

/-- One block alone may have changed. -/
structure Only (o : Nat) (w W : World) : Prop where
  os : W.os = w.os
  tape : W.tape = w.tape
  output : W.output = w.output
  size : W.heap.size = w.heap.size
  block : ∀ k, k ≠ o → W.heap[k]? = w.heap[k]?
theorem Only.refl (o : Nat) (w : World) : Only o w w := ⟨rfl, rfl, rfl, rfl, fun _ _ => rfl⟩
theorem Only.trans {o : Nat} {a b c : World} (h : Only o a b) (k : Only o b c) : Only o a c :=
  ⟨k.os.trans h.os, k.tape.trans h.tape, k.output.trans h.output, k.size.trans h.size, fun i hi => (k.block i hi).trans (h.block i hi)⟩
theorem drewN_same (w : World) : ∀ n, (w.drewN n).os = w.os ∧ (w.drewN n).tape = w.tape ∧ (w.drewN n).output = w.output ∧ (w.drewN n).heap = w.heap := fun n => by
  exact ⟨rfl, rfl, rfl, rfl⟩
theorem Only.drewN {o : Nat} {w W : World} (h : Only o w W) (n : Nat) : Only o w (W.drewN n) := by
  obtain ⟨h1, h2, h3, h4⟩ := drewN_same W n
  exact ⟨h1.trans h.os, h2.trans h.tape, h3.trans h.output, by rw [h4]; exact h.size, fun k hk => by rw [h4]; exact h.block k hk⟩
theorem Only.drew {o : Nat} {w W : World} (h : Only o w W) : Only o w W.drew := ⟨h.os, h.tape, h.output, h.size, h.block⟩
theorem Only.setCell {o : Nat} {w W : World} (h : Only o w W) (i : Nat) (v : Value) : Only o w (W.setCell ⟨o, i, none⟩ v) :=
  ⟨h.os, h.tape, h.output, by simpa using h.size, fun k hk => (Below.heap_setCell _ _ _ _ hk).trans (h.block k hk)⟩
theorem Only.cell {o : Nat} {w W : World} (h : Only o w W) {b : Nat} (hb : b ≠ o) (i : Nat) : W.cell? ⟨b, i, none⟩ = w.cell? ⟨b, i, none⟩ := World.cell?_of_block (h.block b hb)
theorem Only.frozen {o : Nat} {w W : World} (h : Only o w W) {b : Nat} (hb : b ≠ o) (i : Nat) : W.frozen? ⟨b, i, none⟩ = w.frozen? ⟨b, i, none⟩ := World.frozen?_of_block (h.block b hb)
theorem Only.below {o B : Nat} {w W : World} (h : Only o w W) (hB : B ≤ o) : Below B w W := ⟨h.os, h.tape, h.output, by rw [h.size]; exact Nat.le_refl _, fun k hk => h.block k (by omega)⟩
/-- A row of indices. -/
structure OR (W : World) (o n : Nat) (f : Nat → Nat) : Prop where
  z : o < W.heap.size
  c : ∀ i, i < n → W.cell? ⟨o, i, none⟩ = some (.int .i64 ((f i : Nat) : Int))
  lt : ∀ i, i < n → f i < n
  fr : ∀ i, W.frozen? ⟨o, i, none⟩ = false
theorem OR.drewN {W : World} {o n : Nat} {f : Nat → Nat} (h : OR W o n f) (q : Nat) : OR (W.drewN q) o n f := by
  obtain ⟨_, _, _, h4⟩ := drewN_same W q
  exact ⟨by rw [h4]; exact h.z, fun i hi => (World.cell?_of_block (by rw [h4])).trans (h.c i hi), h.lt, fun i => (World.frozen?_of_block (by rw [h4])).trans (h.fr i)⟩
theorem OR.drew {W : World} {o n : Nat} {f : Nat → Nat} (h : OR W o n f) : OR W.drew o n f := ⟨h.z, h.c, h.lt, h.fr⟩
theorem OR.set {W : World} {o n : Nat} {f : Nat → Nat} (h : OR W o n f) (i x : Nat) (hx : x < n) : OR (W.setCell ⟨o, i, none⟩ (.int .i64 ((x : Nat) : Int))) o n (fun j => if j = i then x else f j) :=
  ⟨by simpa using h.z, fun j hj => by
    by_cases e : j = i
    · subst e
      simp [cell_set_self, h.c j hj]
    · rw [World.cell?_setCell_other _ _ _ _ (by intro e'; injection e' with _ e'; omega), if_neg e]
      exact h.c j hj,
   fun j hj => by by_cases e : j = i <;> simp [e, hx, h.lt j hj], fun j => (World.frozen?_setCell _ _ _ _).trans (h.fr j)⟩
/-- The rests, behind the variable that the comparison has captured. -/
structure RS (W : World) (rv rb n : Nat) (R : Nat → Int) : Prop where
  v : W.cell? ⟨rv, 0, none⟩ = some (.slice (some ⟨rb, 0, none⟩) n n)
  c : ∀ i, i < n → W.cell? ⟨rb, i, none⟩ = some (.int .i64 (R i))
theorem RS.only {o : Nat} {w W : World} {rv rb n : Nat} {R : Nat → Int} (h : RS w rv rb n R) (ho : Only o w W) (h1 : rv ≠ o) (h2 : rb ≠ o) : RS W rv rb n R :=
  ⟨(ho.cell h1 0).trans h.v, fun i hi => (ho.cell h2 i).trans (h.c i hi)⟩

set_option maxRecDepth 20000 in
set_option maxHeartbeats 1000000 in
theorem less_any (i k n rv rb : Nat) (R : Nat → Int) (w : World) (hi : i < n) (hk : k < n) (h : RS w rv rb n R) :
    Calls Try.prog 94 #[.int .i64 (i : Int), .int .i64 (k : Int), .pointer (some ⟨rv, 0, none⟩)] w fun e w' => e = .returned (.int .i64 (cmpI (R k) (R i))) ∧ ∃ q, w' = w.drewN q := by
  have hv := h.v
  have ci := h.c i hi
  have ck := h.c k hk
  have hii : (i : Int) < (n : Int) := by omega
  have hki : (k : Int) < (n : Int) := by omega
  generalize R i = x at *
  generalize R k = y at *
  clear h
  go_enter Try.func94, Try.ntmps94
  go_wp2_with fail
  go_quiet ((go_at_call 95; first | with_reducible exact quiet_left (cmp_any _ _ _) | with_reducible exact quiet_add_left (cmp_any _ _ _)))
  go_wp2
  go_ret
  exact ⟨rfl, _, rfl⟩
def SortPost (o n : Nat) (w : World) (e : Ending) (w' : World) : Prop := e = .returned (.tuple #[]) ∧ (∃ f, OR w' o n f) ∧ Only o w w'
set_option maxRecDepth 20000 in
set_option maxHeartbeats 4000000 in
theorem insert_any (n c o rv rb : Nat) (R : Nat → Int) (f0 : Nat → Nat) (w : World) (hn : n ≤ 8) (hO : OR w o n f0) (hS : RS w rv rb n R) (h1 : rv ≠ o) (h2 : rb ≠ o) :
    Calls Try.prog 118 #[.slice (some ⟨o, 0, none⟩) n c, .int .i64 0, .int .i64 (n : Int), .func (.func 94) #[] #[.pointer (some ⟨rv, 0, none⟩)]] w (SortPost o n w) := by
  have HO := Lib.hid hO
  have HS := Lib.hid hS
  have H1 := Lib.hid h1
  have H2 := Lib.hid h2
  have hni : (n : Int) ≤ 8 := by omega
  have hn0 : (0 : Int) ≤ (n : Int) := by omega
  clear hO hS h1 h2
  go_enter Try.func118, Try.ntmps118
  go_wp2
  go_loopw [8] (fun i wr => ∃ k : Nat, 1 ≤ k ∧ (k ≤ n ∨ k = 1) ∧ i = .int .i64 k ∧ Hid (∃ f, OR wr o n f) ∧ Hid (Only o w wr)) (fun i _ => n - (intOf i).toNat)
  case atStart => exact ⟨1, by omega, .inr rfl, by go_num, Lib.hid ⟨f0, HO.out⟩, Lib.hid (Only.refl _ _)⟩
  case round =>
    rename World => wo
    obtain ⟨k, hk1, hk, rfl, HF, HY⟩ := hrel
    by_cases hlt : k < n
    · have hlti : (k : Int) < (n : Int) := by omega
      have HLT := Lib.hid hlt
      have HK1 := Lib.hid hk1
      clear hlt hk
      go_wp2
      go_loopw [9] (fun j wr => ∃ m : Nat, m ≤ k ∧ j = .int .i64 m ∧ Hid (∃ f, OR wr o n f) ∧ Hid (Only o w wr)) (fun j _ => (intOf j).toNat)
      case atStart => exact ⟨k, Nat.le_refl _, rfl, HF, HY⟩
      case round =>
        clear HF HY
        obtain ⟨m, hm, rfl, HF, HY⟩ := hrel
        rcases Nat.eq_zero_or_pos m with hm0 | hm0
        · subst hm0
          have hz : decide ((0 : Int) < ((0 : Nat) : Int)) = false := rfl
          go_wp2_with fail
          go_quiet (fail)
          go_wp2
          go_roundw
          case rel => exact ⟨k + 1, by omega, .inl (by have := HLT.out; omega), by go_num, Lib.hid (by obtain ⟨f, hf⟩ := HF.out; exact ⟨f, hf.drewN _⟩), Lib.hid (HY.out.drewN _)⟩
          case measure => have := HLT.out; simp [intOf]; omega
        · obtain ⟨p, rfl⟩ : ∃ p, m = p + 1 := ⟨m - 1, by omega⟩
          obtain ⟨f, hf⟩ := HF.out
          have hpn : p + 1 < n := by have := HLT.out; omega
          have c0 := hf.c p (by omega)
          have c1 := hf.c (p + 1) hpn
          have fr0 := hf.fr p
          have fr1 := hf.fr (p + 1)
          obtain ⟨r, hr⟩ : ∃ r, r = cmpI (R (f p)) (R (f (p + 1))) := ⟨_, rfl⟩
          have HL : Hid (∀ q, Calls Try.prog 94 #[.int .i64 ((f (p + 1) : Nat) : Int), .int .i64 ((f p : Nat) : Int), .pointer (some ⟨rv, 0, none⟩)] (wr.drewN q) fun e w' => e = .returned (.int .i64 r) ∧ ∃ q', w' = (wr.drewN q).drewN q') := Lib.hid fun q => by
            rw [hr]
            exact less_any _ _ n rv rb R _ (hf.lt _ hpn) (hf.lt _ (by omega)) (HS.out.only (HY.out.drewN q) H1.out H2.out)
          have HFF := Lib.hid hf
          have hpi : (p : Int) + 1 < (n : Int) := by omega
          have hpi0 : (p : Int) < (n : Int) := by omega
          have hp0 : (0 : Int) ≤ (p : Int) := by omega
          have hpp : (0 : Int) < (p : Int) + 1 := by omega
          have e1 : IntKind.i64.wrap ((p : Int) + 1 - 1) = (p : Int) := IntWalk.i64_in _ (by omega) |>.trans (by omega)
          have e2 : IntKind.i64.wrap (p : Int) = (p : Int) := IntWalk.i64_in _ (by omega)
          have e3 : ((p : Int) + 1).toNat = p + 1 := by omega
          have HM := Lib.hid hm
          clear hf hr HF hm hm0
          obtain ⟨x, hx⟩ : ∃ x, x = ((f p : Nat) : Int) := ⟨_, rfl⟩
          obtain ⟨y, hy⟩ : ∃ y, y = ((f (p + 1) : Nat) : Int) := ⟨_, rfl⟩
          rw [← hx] at c0
          rw [← hy] at c1
          rw [← hx, ← hy] at HL
          have HXY := Lib.hid (And.intro hx hy)
          clear hx hy
          go_wp2_with fail
          go_quiet ((go_at_call 94; first | with_reducible exact Calls.quiet_of (HL.out _)))
          by_cases hrl : r < 0
          · go_wp2
            go_region
            all_goals go_wp2
            go_roundw
            case rel =>
              refine ⟨p, by have := HM.out; omega, by go_num, ?_, ?_⟩
              · rw [HXY.out.1, HXY.out.2]
                exact Lib.hid ⟨_, (((HFF.out.drewN _).set (p + 1) (f p) (HFF.out.lt p (by omega))).set p (f (p + 1)) (HFF.out.lt _ hpn))⟩
              · exact Lib.hid (((HY.out.drewN _).setCell _ _).setCell _ _)
            case measure => simp [intOf]; try omega
          · have hrf : decide (r < 0) = false := decide_eq_false hrl
            go_wp2
            go_roundw
            case rel => exact ⟨k + 1, by omega, .inl (by have := HLT.out; omega), by go_num, Lib.hid ⟨f, HFF.out.drewN _⟩, Lib.hid (HY.out.drewN _)⟩
            case measure => have := HLT.out; simp [intOf]; omega
    · have hlt2 : decide ((k : Int) < (n : Int)) = false := decide_eq_false (by omega)
      go_wp2
      go_end0
      exact ⟨rfl, HF.out, HY.out⟩
set_option maxRecDepth 20000 in
set_option maxHeartbeats 4000000 in
theorem stable_any (n c o rv rb : Nat) (R : Nat → Int) (f0 : Nat → Nat) (w : World) (hn : n ≤ 8) (hO : OR w o n f0) (hS : RS w rv rb n R) (h1 : rv ≠ o) (h2 : rb ≠ o) :
    Calls Try.prog 109 #[.slice (some ⟨o, 0, none⟩) n c, .int .i64 (n : Int), .func (.func 94) #[] #[.pointer (some ⟨rv, 0, none⟩)]] w (SortPost o n w) := by
  have HC := Lib.hid (insert_any n c o rv rb R f0 w hn hO hS h1 h2)
  have hni : (n : Int) ≤ 8 := by omega
  have h20 : decide ((20 : Int) ≤ (n : Int)) = false := decide_eq_false (by omega)
  have h20b : decide ((20 : Int) < (n : Int)) = false := decide_eq_false (by omega)
  clear hO hS h1 h2
  go_enter Try.func109, Try.ntmps109
  go_wp2
  go_loop [7, 8] (fun a b => a = .int .i64 0 ∧ b = .int .i64 20) (fun _ _ => 0)
  case atStart => exact ⟨rfl, rfl⟩
  case round =>
    obtain ⟨rfl, rfl⟩ := hrel
    go_wp2_with fail
    refine HC.out.mono ?_
    rintro e w1 ⟨rfl, HF, HY⟩
    go_wp2
    go_loop [6] (fun a => a = .int .i64 20) (fun _ => 0)
    case atStart => rfl
    case round =>
      subst hrel
      go_wp2
      go_end0
      exact ⟨rfl, HF, HY⟩
set_option maxRecDepth 20000 in
theorem sort_any (n c o rv rb : Nat) (R : Nat → Int) (f0 : Nat → Nat) (w : World) (hn : n ≤ 8) (hO : OR w o n f0) (hS : RS w rv rb n R) (h1 : rv ≠ o) (h2 : rb ≠ o) :
    Calls Try.prog 93 #[.slice (some ⟨o, 0, none⟩) n c, .func (.func 94) #[] #[.pointer (some ⟨rv, 0, none⟩)]] w (SortPost o n w) := by
  have HC := Lib.hid (stable_any n c o rv rb R f0 w hn hO hS h1 h2)
  have hni : (n : Int) ≤ 8 := by omega
  clear hO hS h1 h2
  go_enter Try.func93, Try.ntmps93
  go_wp2_with fail
  refine HC.out.mono ?_
  rintro e w1 ⟨rfl, HF, HY⟩
  go_wp2
  go_end0
  exact ⟨rfl, HF, HY⟩
end Go.Proofs.Ytljhocdbfbjpiaa
