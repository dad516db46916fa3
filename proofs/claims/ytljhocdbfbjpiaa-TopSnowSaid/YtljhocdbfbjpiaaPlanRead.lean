/-
  Guns, hours and plans in memory; a look-up in a map of bools that the call made.
-/
import Derived.Test.YtljhocdbfbjpiaaRows
import Derived.Test.YtljhocdbfbjpiaaLawAid
import Derived.Test.YtljhocdbfbjpiaaSlice
import Derived.Test.YtljhocdbfbjpiaaPlanPlain
import Derived.WalkKit
import Derived.WalkSpells
import Derived.WalkLawsBesides
import Derived.Handy
import Derived.Lib.Hide
import Derived.BigQuiet
import Derived.Deep.RegionHeld3
import Derived.Lib.SmallJoins
import Derived.Maps.OwnOps
import Derived.Maps.Views
namespace Go.Proofs.Ytljhocdbfbjpiaa
open Go.RowKit Go.Maps

theorem ret_bool {a b : Bool} (h : a = b) : Ending.returned (.bool a) = .returned (.bool b) := by rw [h]
theorem ret_int {k : IntKind} {a b : Int} (h : a = b) : Ending.returned (.int k a) = .returned (.int k b) := by rw [h]

structure GunAt (w : World) (b o : Nat) (g : Plan.Gun) : Prop where
  c0 : w.cell? ⟨b, o, none⟩ = some (.int .i64 g.id)
  c1 : w.cell? ⟨b, o + 1, none⟩ = some (.int .i64 g.water)
  c2 : w.cell? ⟨b, o + 2, none⟩ = some (.int .i64 g.power)
  c3 : w.cell? ⟨b, o + 3, none⟩ = some (.int .i64 g.value)
structure HourAt (w : World) (b o : Nat) (h : Plan.Hour) : Prop where
  c0 : w.cell? ⟨b, o, none⟩ = some (.int .i64 h.power)
  c1 : w.cell? ⟨b, o + 1, none⟩ = some (.int .i64 h.factor)
def RdG (w : World) (A : Option Addr) (gs : List Plan.Gun) : Prop :=
  0 < gs.length → ∃ b off, A = some ⟨b, off, none⟩ ∧ b < w.heap.size ∧ ∀ i, i < gs.length → GunAt w b (off + i * 4) (Plan.gAt gs i)
def RdH (w : World) (A : Option Addr) (hs : List Plan.Hour) : Prop :=
  0 < hs.length → ∃ b off, A = some ⟨b, off, none⟩ ∧ b < w.heap.size ∧ ∀ i, i < hs.length → HourAt w b (off + i * 2) (Plan.hAt hs i)
/-- A plan: a row of slices of ints. -/
def RdL (w : World) (A : Option Addr) (ls : List (List Int)) : Prop :=
  0 < ls.length → ∃ b off, A = some ⟨b, off, none⟩ ∧ b < w.heap.size ∧ ∀ i, i < ls.length → ∃ Ai ci, w.cell? ⟨b, off + i, none⟩ = some (.slice Ai (Plan.lAt ls i).length ci) ∧ Rd w Ai (Plan.lAt ls i)
theorem GunAt.below {w w' : World} {b o : Nat} {g : Plan.Gun} (h : GunAt w b o g) (hl : b < w.heap.size) (hb : Below w.heap.size w w') : GunAt w' b o g :=
  ⟨(hb.cell (p := ⟨b, o, none⟩) hl).trans h.c0, (hb.cell (p := ⟨b, o + 1, none⟩) hl).trans h.c1, (hb.cell (p := ⟨b, o + 2, none⟩) hl).trans h.c2, (hb.cell (p := ⟨b, o + 3, none⟩) hl).trans h.c3⟩
theorem HourAt.below {w w' : World} {b o : Nat} {g : Plan.Hour} (h : HourAt w b o g) (hl : b < w.heap.size) (hb : Below w.heap.size w w') : HourAt w' b o g :=
  ⟨(hb.cell (p := ⟨b, o, none⟩) hl).trans h.c0, (hb.cell (p := ⟨b, o + 1, none⟩) hl).trans h.c1⟩
theorem RdG.below {w w' : World} {A : Option Addr} {gs : List Plan.Gun} (h : RdG w A gs) (hb : Below w.heap.size w w') : RdG w' A gs := fun hp => by
  obtain ⟨b, off, e, h1, h2⟩ := h hp
  exact ⟨b, off, e, Nat.lt_of_lt_of_le h1 hb.size, fun i hi => (h2 i hi).below h1 hb⟩
theorem RdH.below {w w' : World} {A : Option Addr} {hs : List Plan.Hour} (h : RdH w A hs) (hb : Below w.heap.size w w') : RdH w' A hs := fun hp => by
  obtain ⟨b, off, e, h1, h2⟩ := h hp
  exact ⟨b, off, e, Nat.lt_of_lt_of_le h1 hb.size, fun i hi => (h2 i hi).below h1 hb⟩
theorem RdL.below {w w' : World} {A : Option Addr} {ls : List (List Int)} (h : RdL w A ls) (hb : Below w.heap.size w w') : RdL w' A ls := fun hp => by
  obtain ⟨b, off, e, h1, h2⟩ := h hp
  refine ⟨b, off, e, Nat.lt_of_lt_of_le h1 hb.size, fun i hi => ?_⟩
  obtain ⟨Ai, ci, h3, h4⟩ := h2 i hi
  exact ⟨Ai, ci, (hb.cell (p := ⟨b, off + i, none⟩) h1).trans h3, h4.below hb⟩
theorem RdL.at_ {w : World} {A : Option Addr} {ls : List (List Int)} (h : RdL w A ls) {i : Nat} (hi : i < ls.length) :
    ∃ b off Ai ci, A = some ⟨b, off, none⟩ ∧ b < w.heap.size ∧ w.cell? ⟨b, off + i, none⟩ = some (.slice Ai (Plan.lAt ls i).length ci) ∧ Rd w Ai (Plan.lAt ls i) := by
  obtain ⟨b, off, e, h1, h2⟩ := h (by omega)
  obtain ⟨Ai, ci, h3, h4⟩ := h2 i hi
  exact ⟨b, off, Ai, ci, e, h1, h3, h4⟩
theorem RdG.at_ {w : World} {A : Option Addr} {gs : List Plan.Gun} (h : RdG w A gs) {i : Nat} (hi : i < gs.length) : ∃ b off, A = some ⟨b, off, none⟩ ∧ b < w.heap.size ∧ GunAt w b (off + i * 4) (Plan.gAt gs i) := by
  obtain ⟨b, off, e, h1, h2⟩ := h (by omega)
  exact ⟨b, off, e, h1, h2 i hi⟩
theorem RdH.at_ {w : World} {A : Option Addr} {hs : List Plan.Hour} (h : RdH w A hs) {i : Nat} (hi : i < hs.length) : ∃ b off, A = some ⟨b, off, none⟩ ∧ b < w.heap.size ∧ HourAt w b (off + i * 2) (Plan.hAt hs i) := by
  obtain ⟨b, off, e, h1, h2⟩ := h (by omega)
  exact ⟨b, off, e, h1, h2 i hi⟩

/-! ### The map of the identifiers that were seen -/
theorem plainElem_bool_inv {H : Type} {P : Program} {e : TypeId} (he : P.underlying e = some .bool) {v : Value} {z : DataW H × List MemPlace} (h : plainElem P e v = some z) : ∃ x, v = .bool x ∧ z = (.lit (.bool x), []) := by
  unfold plainElem at h
  rw [he] at h
  cases v <;> simp at h
  exact ⟨_, rfl, h.symm⟩
theorem wpList_lookup_own_bool {H : Type} {P : Program} (w : World) {ops : Array Oper} {rest : List Oper} {o : Oper} {a : Act} {Q : Exit → Act → World → Prop}
    (hg : o.guard = none) (m x : Operand) (t : TypeId) (hop : o.op = Op.lookup t m x false)
    (k e : TypeId) (K : Keyed P k) (ht : P.underlying t = some (.map k e)) (he : P.underlying e = some .bool) (hz : (zeroValue e).run P w = .ok (.bool false) w) (b n : Nat) (D : DataW H)
    (hm : a.eval m = .map (some b)) (hown : w.ownsMap P k (plainElem P e) b n D) (key : Value) (kl : Lit) (hx : a.eval x = key) (hkey : keyOf P k key = some kl)
    (c : Bool) (hat : D.atKey kl (.lit (.bool false)) = .lit (.bool c))
    (hK : wpList P ops Q rest (a.put o.dst (.bool c)) w) :
    wpList P ops Q (o :: rest) a w := by
  refine wpList_plain hg fun K' hK' => ?_
  obtain ⟨v, ps, hrun, hv⟩ := hown.lookup K ht hz (plainElem_bool he false) hkey
  obtain ⟨x', rfl, hc⟩ := plainElem_bool_inv he hv
  simp only [Prod.mk.injEq] at hc
  have hcx : x' = c := by
    have e1 := hc.1.symm.trans hat
    simpa using e1
  subst hcx
  unfold Oper.wp
  simp [execOp, hop, hm, hx, hrun, Result.andThen]
  exact hK' _ _ hK
theorem mapLaw : Keyed Try.prog 3 := int_keyed Try.underlying3
theorem boolZero (w : World) : (zeroValue 4).run Try.prog w = .ok (.bool false) w := by kernel_rfl
/-- The map in block b has these keys, each true. -/
def Seen (w : World) (b n : Nat) (ids : List Int) : Prop :=
  ∃ D : DataW Unit, w.ownsMap Try.prog 3 (plainElem Try.prog 4) b n D ∧ IsMap D ∧ ∀ x : Int, D.atKey (.int .i64 x) (.lit (.bool false)) = .lit (.bool (ids.contains x))
theorem Seen.made (w : World) : Seen (w.alloc (.map #[] 0)) w.heap.size 0 [] :=
  ⟨_, World.ownsMap_made _ _ _ _, isMap_empty, fun _ => rfl⟩
theorem seen_put {D : DataW Unit} {ids : List Int} {y : Int} (hm : IsMap D) (h : ∀ x : Int, D.atKey (.int .i64 x) (.lit (.bool false)) = .lit (.bool (ids.contains x))) :
    ∀ x : Int, (D.put (.int .i64 y) (.lit (.bool true))).atKey (.int .i64 x) (.lit (.bool false)) = .lit (.bool ((ids ++ [y]).contains x)) := by
  intro x
  by_cases e : x = y
  · subst e
    rw [atKey_put_same (k := .int .i64 x) hm trivial]
    simp
  · rw [atKey_put_other (k := .int .i64 y) (k' := .int .i64 x) (by intro e'; cases e'; exact e rfl), h x]
    simp [e]
end Go.Proofs.Ytljhocdbfbjpiaa
