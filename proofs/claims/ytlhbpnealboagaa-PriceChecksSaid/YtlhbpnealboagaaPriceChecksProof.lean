/-
  The statement 'PriceChecks' proved: for every input the law returns true, and its arguments read as before. No condition.
-/
import Derived.Test.YtlhbpnealboagaaPriceLawC
import Derived.Test.YtlhbpnealboagaaRuleOpen
import Derived.ProofKit
import Derived.Lib.SmallJoins
namespace Go.Proofs.Ytlhbpnealboagaa.priceChecks
open Go.ChangeShapes Go.WideShapes Go.ChangeAt Go.RowKit Go.Joins

theorem own : ownKnob Try.prog.godebug = none := by kernel_rfl
theorem laidOut : laidOutB Try.prog = true := by kernel_rfl
theorem cells_rule : Try.prog.cellsOf 24 = 5 := by kernel_rfl

set_option maxRecDepth 100000 in
set_option maxHeartbeats 1000000 in
theorem lifted (os : Os) (started : os.Started) (H : Type) (enc : TypeId × Value → H) :
    ReturnsInHanded {} Try.checked os 3 .any (Rows.priceChecksSpec.pre6 enc Try.prog Try.f3 Rows.priceChecksRow.domain false) (Rows.priceChecksSpec.post enc Try.prog Try.f3 false true false false) := by
  refine returnsInHanded_of_change (C := Try.checked) own started (by kernel_rfl) Try.func3
    (ChangeSpec.witness6 (enc := enc) (C := Try.checked) false ⟨#[], #[.agg #[.int .i64 0, .int .i64 0, .int .i64 0, .slice none 0 0, .slice none 0 0]], []⟩ 8 (by kernel_rfl) (by kernel_rfl) (by kernel_rfl) (by kernel_rfl)) ?_
  intro W base args ds gs before hval0 hW _ _
  have hval : ∀ (j : Nat) t v, Try.f3.params[j]? = some t → args[j]? = some v → Value.okWide Try.prog W .any base t v := hval0
  have hW' := hW
  obtain ⟨p, q, hA0, hV, rfl, _, _⟩ := hW
  have hA : DataW.TrodAll enc Try.prog W 0 (fun _ => true) true Try.f3.params.toList args.toList ds p := hA0
  rw [Try.params3] at hA hval
  obtain ⟨v0, vs0, d0, ds0, p0, q0, hargs, rfl, rfl, h0, r0⟩ := trodAll_cons hA
  obtain ⟨rfl, rfl, rfl⟩ := trodAll_nil r0
  obtain rfl : args = #[v0] := by cases args; simp_all
  obtain ⟨rfl, rfl⟩ := trodVars_none hV
  obtain ⟨l0, m0, s0, a0, b0, yl0, ym0, ys0, ya0, yb0, n0, rfl, rfl, rfl, el0, em0, es0, ea0, eb0⟩ := open_agg5 Try.underlying24 (by kernel_rfl) cells_rule (hval 0 24 v0 rfl rfl) h0
  obtain ⟨l0_, ul0, -, -⟩ := DataW.trod_int Try.underlying3 el0
  obtain rfl : l0 = .int .i64 l0_ := by simpa using ul0
  obtain ⟨m0_, um0, -, -⟩ := DataW.trod_int Try.underlying3 em0
  obtain rfl : m0 = .int .i64 m0_ := by simpa using um0
  obtain ⟨s0_, us0, -, -⟩ := DataW.trod_int Try.underlying3 es0
  obtain rfl : s0 = .int .i64 s0_ := by simpa using us0
  obtain ⟨Aa0_, ka0_, pa0_, rfl, hRa0_⟩ := read_points Try.underlying22 Try.underlying44 (by kernel_rfl) (by kernel_rfl) Try.underlying3 Try.underlying3 ea0
  obtain ⟨Ab0_, kb0_, pb0_, rfl, hRb0_⟩ := read_points Try.underlying22 Try.underlying44 (by kernel_rfl) (by kernel_rfl) Try.underlying3 Try.underlying3 eb0
  clear hA0 hval0
  simp only [List.append_nil] at hW'
  refine (lawChecks l0_ m0_ s0_ pa0_ pb0_ Aa0_ ka0_ Ab0_ kb0_ W hRa0_ hRb0_ ).mono fun e W' ⟨he, hb⟩ => ?_
  subst he
  exact ⟨_, rfl, law_post laidOut hW' (by kernel_rfl) rfl rfl rfl rfl rfl Try.underlying4 hb⟩

theorem proved : Rows.PriceChecksSaid :=
  OpenClaim.holds_of_wide 3 Try.f3 rfl rfl rfl rfl rfl rfl rfl ⟨rfl, rfl, rfl, rfl, rfl⟩ rfl rfl rfl rfl rfl (by kernel_rfl) Try.func3 (by kernel_rfl)
    (of_decide_eq_true (by kernel_rfl)) (by unfold Func.isWrapper; first | (rw [if_pos (by decide +kernel)]; kernel_rfl) | (rw [if_neg (by decide +kernel)]; exact ⟨rfl, rfl⟩))
    (fun os started H enc _ => lifted os started H enc)
#print axioms proved
end Go.Proofs.Ytlhbpnealboagaa.priceChecks
