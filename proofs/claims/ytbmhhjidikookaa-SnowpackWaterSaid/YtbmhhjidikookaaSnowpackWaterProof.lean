/-
  The statement 'SnowpackWater' proved: for every input the law returns true, and its arguments read as before. No condition.
-/
import Derived.Test.YtbmhhjidikookaaSnowLawC
import Derived.ProofKit
import Derived.Lib.SmallJoins
namespace Go.Proofs.Ytbmhhjidikookaa.snowpackWater
open Go.ChangeShapes Go.WideShapes Go.ChangeAt Go.RowKit Go.Joins

theorem own : ownKnob Try.prog.godebug = none := by kernel_rfl
theorem laidOut : laidOutB Try.prog = true := by kernel_rfl
theorem cells_pack : Try.prog.cellsOf 23 = 3 := by kernel_rfl

set_option maxRecDepth 100000 in
theorem lifted (os : Os) (started : os.Started) (H : Type) (enc : TypeId × Value → H) :
    ReturnsInHanded {} Try.checked os 11 .any (Rows.snowpackWaterSpec.pre6 enc Try.prog Try.f11 Rows.snowpackWaterRow.domain false) (Rows.snowpackWaterSpec.post enc Try.prog Try.f11 false true false false) := by
  refine returnsInHanded_of_change (C := Try.checked) own started (by kernel_rfl) Try.func11
    (ChangeSpec.witness6 (enc := enc) (C := Try.checked) false ⟨#[], #[.agg #[.int .i64 0, .int .i64 0, .int .i64 0], .agg #[.int .i64 0, .int .i64 0, .int .i64 0], .int .i64 0, .int .i64 0], []⟩ 8 (by kernel_rfl) (by kernel_rfl) (by kernel_rfl) (by kernel_rfl)) ?_
  intro W base args ds gs before hval0 hW _ _
  have hval : ∀ (j : Nat) t v, Try.f11.params[j]? = some t → args[j]? = some v → Value.okWide Try.prog W .any base t v := hval0
  have hW' := hW
  obtain ⟨p, q, hA0, hV, rfl, _, _⟩ := hW
  have hA : DataW.TrodAll enc Try.prog W 0 (fun _ => true) true Try.f11.params.toList args.toList ds p := hA0
  rw [Try.params11] at hA hval
  obtain ⟨v0, vs0, d0, ds0, p0, q0, hargs, rfl, rfl, h0, r0⟩ := trodAll_cons hA
  obtain ⟨v1, vs1, d1, ds1, p1, q1, rfl, rfl, rfl, h1, r1⟩ := trodAll_cons r0
  obtain ⟨v2, vs2, d2, ds2, p2, q2, rfl, rfl, rfl, h2, r2⟩ := trodAll_cons r1
  obtain ⟨v3, vs3, d3, ds3, p3, q3, rfl, rfl, rfl, h3, r3⟩ := trodAll_cons r2
  obtain ⟨rfl, rfl, rfl⟩ := trodAll_nil r3
  obtain rfl : args = #[v0, v1, v2, v3] := by cases args; simp_all
  obtain ⟨rfl, rfl⟩ := trodVars_none hV
  obtain ⟨a0, b0, c0, y0, y0', y0'', m0, rfl, rfl, rfl, e0, e0', e0''⟩ := open_agg3 Try.underlying23 (by kernel_rfl) cells_pack (hval 0 23 v0 rfl rfl) h0
  obtain ⟨a0_, u0, -, -⟩ := DataW.trod_int Try.underlying3 e0
  obtain rfl : a0 = .int .i64 a0_ := by simpa using u0
  obtain ⟨b0_, u0', -, -⟩ := DataW.trod_int Try.underlying3 e0'
  obtain rfl : b0 = .int .i64 b0_ := by simpa using u0'
  obtain ⟨c0_, u0'', -, -⟩ := DataW.trod_int Try.underlying3 e0''
  obtain rfl : c0 = .int .i64 c0_ := by simpa using u0''
  obtain ⟨a1, b1, c1, y1, y1', y1'', m1, rfl, rfl, rfl, e1, e1', e1''⟩ := open_agg3 Try.underlying23 (by kernel_rfl) cells_pack (hval 1 23 v1 rfl rfl) h1
  obtain ⟨a1_, u1, -, -⟩ := DataW.trod_int Try.underlying3 e1
  obtain rfl : a1 = .int .i64 a1_ := by simpa using u1
  obtain ⟨b1_, u1', -, -⟩ := DataW.trod_int Try.underlying3 e1'
  obtain rfl : b1 = .int .i64 b1_ := by simpa using u1'
  obtain ⟨c1_, u1'', -, -⟩ := DataW.trod_int Try.underlying3 e1''
  obtain rfl : c1 = .int .i64 c1_ := by simpa using u1''
  obtain ⟨x2, rfl, rfl, rfl, w2⟩ := open_int Try.underlying3 (hval 2 3 v2 rfl rfl) h2
  obtain ⟨x3, rfl, rfl, rfl, w3⟩ := open_int Try.underlying3 (hval 3 3 v3 rfl rfl) h3
  clear hA0 hval0
  simp only [List.append_nil] at hW'
  refine (lawWater a0_ b0_ c0_ a1_ b1_ c1_ x2 x3 W).mono fun e W' ⟨he, hb⟩ => ?_
  subst he
  exact ⟨_, rfl, law_post laidOut hW' (by kernel_rfl) rfl rfl rfl rfl rfl Try.underlying4 hb⟩

theorem proved : Rows.SnowpackWaterSaid :=
  OpenClaim.holds_of_wide 11 Try.f11 rfl rfl rfl rfl rfl rfl rfl ⟨rfl, rfl, rfl, rfl, rfl⟩ rfl rfl rfl rfl rfl (by kernel_rfl) Try.func11 (by kernel_rfl)
    (of_decide_eq_true (by kernel_rfl)) (by unfold Func.isWrapper; first | (rw [if_pos (by decide +kernel)]; kernel_rfl) | (rw [if_neg (by decide +kernel)]; exact ⟨rfl, rfl⟩))
    (fun os started H enc _ => lifted os started H enc)
#print axioms proved
end Go.Proofs.Ytbmhhjidikookaa.snowpackWater
