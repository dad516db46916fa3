/-
  The statement 'TopSnow' proved: for every input the law returns true, and its arguments read as before. No condition.
-/
import Derived.Test.YtljhocdbfbjpiaaTopSnowLaw
import Derived.ProofKit
import Derived.Test.YtljhocdbfbjpiaaPlanOpenB
import Derived.Lib.SmallJoins
namespace Go.Proofs.Ytljhocdbfbjpiaa.topSnow
open Go.ChangeShapes Go.WideShapes Go.ChangeAt Go.RowKit Go.Joins

theorem own : ownKnob Try.prog.godebug = none := by kernel_rfl
theorem laidOut : laidOutB Try.prog = true := by kernel_rfl

set_option maxRecDepth 100000 in
set_option maxHeartbeats 1000000 in
theorem lifted (os : Os) (started : os.Started) (H : Type) (enc : TypeId × Value → H) :
    ReturnsInHanded {} Try.checked os 3 .any (Rows.topSnowSpec.pre6 enc Try.prog Try.f3 Rows.topSnowRow.domain false) (Rows.topSnowSpec.post enc Try.prog Try.f3 false true false false) := by
  refine returnsInHanded_of_change (C := Try.checked) own started (by kernel_rfl) Try.func3
    (ChangeSpec.witness6 (enc := enc) (C := Try.checked) false ⟨#[], #[.slice none 0 0, .slice none 0 0, .int .i64 0, .slice none 0 0], []⟩ 8 (by kernel_rfl) (by kernel_rfl) (by kernel_rfl) (by kernel_rfl)) ?_
  intro W base args ds gs before hval0 hW _ _
  have hval : ∀ (j : Nat) t v, Try.f3.params[j]? = some t → args[j]? = some v → Value.okWide Try.prog W .any base t v := hval0
  have hW' := hW
  obtain ⟨p, q, hA0, hV, rfl, _, _⟩ := hW
  have hA : DataW.TrodAll enc Try.prog W 0 (fun _ => true) true Try.f3.params.toList args.toList ds p := hA0
  rw [Try.params3] at hA hval
  obtain ⟨v0, vs0, d0, ds0, p0, q0, hargs, rfl, rfl, h0, r0⟩ := trodAll_cons hA
  obtain ⟨v1, vs1, d1, ds1, p1, q1, rfl, rfl, rfl, h1, r1⟩ := trodAll_cons r0
  obtain ⟨v2, vs2, d2, ds2, p2, q2, rfl, rfl, rfl, h2, r2⟩ := trodAll_cons r1
  obtain ⟨v3, vs3, d3, ds3, p3, q3, rfl, rfl, rfl, h3, r3⟩ := trodAll_cons r2
  obtain ⟨rfl, rfl, rfl⟩ := trodAll_nil r3
  obtain rfl : args = #[v0, v1, v2, v3] := by cases args; simp_all
  obtain ⟨rfl, rfl⟩ := trodVars_none hV
  obtain ⟨sa0, sl0, sc0, rfl⟩ := okWide_slice Try.underlying22 (hval 0 22 v0 rfl rfl)
  obtain ⟨f0, hf0⟩ := h0
  obtain ⟨A0_, k0_, g0_, es0, hR0_⟩ := read_guns Try.underlying22 Try.underlying79 (by kernel_rfl) (by kernel_rfl) Try.underlying3 Try.underlying3 Try.underlying3 Try.underlying3 (v := .slice sa0 sl0 sc0) (by simpa [Value.cells] using hf0)
  injection es0 with es0a es0b es0c
  subst es0a es0b es0c
  obtain ⟨sa1, sl1, sc1, rfl⟩ := okWide_slice Try.underlying23 (hval 1 23 v1 rfl rfl)
  obtain ⟨f1, hf1⟩ := h1
  obtain ⟨A1_, k1_, g1_, es1, hR1_⟩ := read_hours Try.underlying23 Try.underlying81 (by kernel_rfl) (by kernel_rfl) Try.underlying3 Try.underlying3 (v := .slice sa1 sl1 sc1) (by simpa [Value.cells] using hf1)
  injection es1 with es1a es1b es1c
  subst es1a es1b es1c
  obtain ⟨x2, rfl, rfl, rfl, w2⟩ := open_int Try.underlying3 (hval 2 3 v2 rfl rfl) h2
  obtain ⟨sa3, sl3, sc3, rfl⟩ := okWide_slice Try.underlying24 (hval 3 24 v3 rfl rfl)
  obtain ⟨f3, hf3⟩ := h3
  obtain ⟨A3_, k3_, g3_, es3, hR3_⟩ := read_plan Try.underlying24 Try.underlying28 Try.underlying3 (by kernel_rfl) (by kernel_rfl) (v := .slice sa3 sl3 sc3) (by simpa [Value.cells] using hf3)
  injection es3 with es3a es3b es3c
  subst es3a es3b es3c
  clear hA0 hval0
  simp only [List.append_nil] at hW'
  refine (topSnow_any g0_ g1_ x2 g3_ sa0 sc0 sa1 sc1 sa3 sc3 W hR0_ hR1_ hR3_).mono fun e W' ⟨he, hb⟩ => ?_
  subst he
  exact ⟨_, rfl, law_post laidOut hW' (by kernel_rfl) rfl rfl rfl rfl rfl Try.underlying4 hb⟩

theorem proved : Rows.TopSnowSaid :=
  OpenClaim.holds_of_wide 3 Try.f3 rfl rfl rfl rfl rfl rfl rfl ⟨rfl, rfl, rfl, rfl, rfl⟩ rfl rfl rfl rfl rfl (by kernel_rfl) Try.func3 (by kernel_rfl)
    (of_decide_eq_true (by kernel_rfl)) (by unfold Func.isWrapper; first | (rw [if_pos (by decide +kernel)]; kernel_rfl) | (rw [if_neg (by decide +kernel)]; exact ⟨rfl, rfl⟩))
    (fun os started H enc _ => lifted os started H enc)
#print axioms proved
end Go.Proofs.Ytljhocdbfbjpiaa.topSnow
