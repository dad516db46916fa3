/-
  The statement 'PriceCheapest' proved: for every input the law returns true, and its arguments read as before. No condition.
-/
import Derived.Test.YtlhbpnealboagaaPriceLawG
import Derived.Test.YtlhbpnealboagaaRuleOpen
import Derived.Test.YtlhbpnealboagaaArrOpen
import Derived.ProofKit
import Derived.Lib.SmallJoins
namespace Go.Proofs.Ytlhbpnealboagaa.priceCheapest
open Go.ChangeShapes Go.WideShapes Go.ChangeAt Go.RowKit Go.Joins

theorem own : ownKnob Try.prog.godebug = none := by kernel_rfl
theorem laidOut : laidOutB Try.prog = true := by kernel_rfl
theorem cells_rule : Try.prog.cellsOf 24 = 5 := by kernel_rfl

set_option maxRecDepth 100000 in
set_option maxHeartbeats 1000000 in
theorem lifted (os : Os) (started : os.Started) (H : Type) (enc : TypeId × Value → H) :
    ReturnsInHanded {} Try.checked os 10 .any (Rows.priceCheapestSpec.pre6 enc Try.prog Try.f10 Rows.priceCheapestRow.domain false) (Rows.priceCheapestSpec.post enc Try.prog Try.f10 false true false false) := by
  refine returnsInHanded_of_change (C := Try.checked) own started (by kernel_rfl) Try.func10
    (ChangeSpec.witness6 (enc := enc) (C := Try.checked) false ⟨#[], #[.agg #[.int .i64 0, .int .i64 0, .int .i64 0, .slice none 0 0, .slice none 0 0], .int .i64 0, .int .i64 0, .slice none 0 0], []⟩ 8 (by kernel_rfl) (by kernel_rfl) (by kernel_rfl) (by kernel_rfl)) ?_
  intro W base args ds gs before hval0 hW _ _
  have hval : ∀ (j : Nat) t v, Try.f10.params[j]? = some t → args[j]? = some v → Value.okWide Try.prog W .any base t v := hval0
  have hW' := hW
  obtain ⟨p, q, hA0, hV, rfl, _, _⟩ := hW
  have hA : DataW.TrodAll enc Try.prog W 0 (fun _ => true) true Try.f10.params.toList args.toList ds p := hA0
  rw [Try.params10] at hA hval
  obtain ⟨v0, vs0, d0, ds0, p0, q0, hargs, rfl, rfl, h0, r0⟩ := trodAll_cons hA
  obtain ⟨v1, vs1, d1, ds1, p1, q1, rfl, rfl, rfl, h1, r1⟩ := trodAll_cons r0
  obtain ⟨v2, vs2, d2, ds2, p2, q2, rfl, rfl, rfl, h2, r2⟩ := trodAll_cons r1
  obtain ⟨v3, vs3, d3, ds3, p3, q3, rfl, rfl, rfl, h3, r3⟩ := trodAll_cons r2
  obtain ⟨rfl, rfl, rfl⟩ := trodAll_nil r3
  obtain rfl : args = #[v0, v1, v2, v3] := by cases args; simp_all
  obtain ⟨rfl, rfl⟩ := trodVars_none hV
  obtain ⟨l0, m0, s0, a0, b0, yl0, ym0, ys0, ya0, yb0, n0, rfl, rfl, rfl, el0, em0, es0, ea0, eb0⟩ := open_agg5 Try.underlying24 (by kernel_rfl) cells_rule (hval 0 24 v0 rfl rfl) h0
  obtain ⟨l0_, ul0, -, -⟩ := DataW.trod_int Try.underlying3 el0
  obtain rfl : l0 = .int .i64 l0_ := by simpa using ul0
  obtain ⟨m0_, um0, -, -⟩ := DataW.trod_int Try.underlying3 em0
  obtain rfl : m0 = .int .i64 m0_ := by simpa using um0
  obtain ⟨s0_, us0, -, -⟩ := DataW.trod_int Try.underlying3 es0
  obtain rfl : s0 = .int .i64 s0_ := by simpa using us0
  obtain ⟨Aa0_, ka0_, pa0_, rfl, hRa0_⟩ := read_points Try.underlying22 Try.underlying44 (by kernel_rfl) (by kernel_rfl) Try.underlying3 Try.underlying3 ea0
  obtain ⟨Ab0_, kb0_, pb0_, rfl, hRb0_⟩ := read_points Try.underlying22 Try.underlying44 (by kernel_rfl) (by kernel_rfl) Try.underlying3 Try.underlying3 eb0
  obtain ⟨x1, rfl, rfl, rfl, w1⟩ := open_int Try.underlying3 (hval 1 3 v1 rfl rfl) h1
  obtain ⟨x2, rfl, rfl, rfl, w2⟩ := open_int Try.underlying3 (hval 2 3 v2 rfl rfl) h2
  obtain ⟨sa3, sl3, sc3, rfl⟩ := okWide_slice Try.underlying34 (hval 3 34 v3 rfl rfl)
  obtain ⟨f3, hf3⟩ := h3
  obtain ⟨A3_, k3_, g3_, es3, hR3_, -, -, -⟩ := read_ints Try.underlying34 Try.underlying3 (by kernel_rfl) (v := .slice sa3 sl3 sc3) (by simpa [Value.cells] using hf3)
  injection es3 with es3a es3b es3c
  subst es3a es3b es3c
  clear hA0 hval0
  simp only [List.append_nil] at hW'
  refine (lawCheapest l0_ m0_ s0_ pa0_ pb0_ x1 x2 g3_ Aa0_ ka0_ Ab0_ kb0_ sa3 sc3 W hRa0_ hRb0_ hR3_ (wf_lo w2) (wf_hi w2)).mono fun e W' ⟨he, hb⟩ => ?_
  subst he
  exact ⟨_, rfl, law_post laidOut hW' (by kernel_rfl) rfl rfl rfl rfl rfl Try.underlying4 hb⟩

theorem proved : Rows.PriceCheapestSaid :=
  OpenClaim.holds_of_wide 10 Try.f10 rfl rfl rfl rfl rfl rfl rfl ⟨rfl, rfl, rfl, rfl, rfl⟩ rfl rfl rfl rfl rfl (by kernel_rfl) Try.func10 (by kernel_rfl)
    (of_decide_eq_true (by kernel_rfl)) (by unfold Func.isWrapper; first | (rw [if_pos (by decide +kernel)]; kernel_rfl) | (rw [if_neg (by decide +kernel)]; exact ⟨rfl, rfl⟩))
    (fun os started H enc _ => lifted os started H enc)
#print axioms proved
end Go.Proofs.Ytlhbpnealboagaa.priceCheapest
