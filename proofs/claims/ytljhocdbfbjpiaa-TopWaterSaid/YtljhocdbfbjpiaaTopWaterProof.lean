/-
  The statement 'TopWater' proved: for every input the law returns true, and its arguments read as before. No condition.
-/
import Derived.Test.YtljhocdbfbjpiaaWtOpen
import Derived.ProofKit
import Derived.Lib.SmallJoins
namespace Go.Proofs.Ytljhocdbfbjpiaa.topWater
open Go.ChangeShapes Go.WideShapes Go.ChangeAt Go.RowKit Go.Joins

theorem own : ownKnob Try.prog.godebug = none := by kernel_rfl
theorem laidOut : laidOutB Try.prog = true := by kernel_rfl
theorem ints_of {P : Program} {fs : Array Field} {k : TypeId} (h : fs.all (fun f => f.type == k) = true) (hk : P.underlying k = some (.int .i64)) : ∀ (j : Nat) (f : Field), fs[j]? = some f → P.underlying f.type = some (.int .i64) := fun j f hj => by
  have h1 := Array.all_eq_true_iff_forall_mem.1 h f (Array.mem_of_getElem? hj)
  have h2 : f.type = k := by simpa using h1
  rw [h2]
  exact hk

set_option maxRecDepth 100000 in
set_option maxHeartbeats 1000000 in
theorem lifted (os : Os) (started : os.Started) (H : Type) (enc : TypeId × Value → H) :
    ReturnsInHanded {} Try.checked os 4 .any (Rows.topWaterSpec.pre6 enc Try.prog Try.f4 Rows.topWaterRow.domain false) (Rows.topWaterSpec.post enc Try.prog Try.f4 false true false false) := by
  refine returnsInHanded_of_change (C := Try.checked) own started (by kernel_rfl) Try.func4
    (ChangeSpec.witness6 (enc := enc) (C := Try.checked) false ⟨#[], #[.agg #[.slice none 0 0, .slice none 0 0, .slice none 0 0, .slice none 0 0, .slice none 0 0, .slice none 0 0, .int .i64 0, .int .i64 0, .int .i64 0, .int .i64 0, .int .i64 0, .int .i64 0, .int .i64 0], .int .i64 0, .int .i64 0, .slice none 0 0], []⟩ 8 (by kernel_rfl) (by kernel_rfl) (by kernel_rfl) (by kernel_rfl)) ?_
  intro W base args ds gs before hval0 hW _ _
  have hval : ∀ (j : Nat) t v, Try.f4.params[j]? = some t → args[j]? = some v → Value.okWide Try.prog W .any base t v := hval0
  have hW' := hW
  obtain ⟨p, q, hA0, hV, rfl, _, _⟩ := hW
  have hA : DataW.TrodAll enc Try.prog W 0 (fun _ => true) true Try.f4.params.toList args.toList ds p := hA0
  rw [Try.params4] at hA hval
  obtain ⟨v0, vs0, d0, ds0, p0, q0, hargs, rfl, rfl, h0, r0⟩ := trodAll_cons hA
  obtain ⟨v1, vs1, d1, ds1, p1, q1, rfl, rfl, rfl, h1, r1⟩ := trodAll_cons r0
  obtain ⟨v2, vs2, d2, ds2, p2, q2, rfl, rfl, rfl, h2, r2⟩ := trodAll_cons r1
  obtain ⟨v3, vs3, d3, ds3, p3, q3, rfl, rfl, rfl, h3, r3⟩ := trodAll_cons r2
  obtain ⟨rfl, rfl, rfl⟩ := trodAll_nil r3
  obtain rfl : args = #[v0, v1, v2, v3] := by cases args; simp_all
  obtain ⟨rfl, rfl⟩ := trodVars_none hV
  obtain ⟨cs0, n0, rfl, hsz, hg⟩ := open_aggN Try.underlying41 (by kernel_rfl) (by kernel_rfl) (hval 0 41 v0 rfl rfl) h0
  obtain ⟨c0, c1, c2, c3, c4, c5, c6, c7, c8, c9, c10, c11, c12, rfl⟩ := array13 hsz
  obtain ⟨u0, y0, hu0, t0⟩ := hg 0 _ rfl
  obtain rfl : c0 = u0 := by simpa using hu0
  obtain ⟨u1, y1, hu1, t1⟩ := hg 1 _ rfl
  obtain rfl : c1 = u1 := by simpa using hu1
  obtain ⟨u2, y2, hu2, t2⟩ := hg 2 _ rfl
  obtain rfl : c2 = u2 := by simpa using hu2
  obtain ⟨u3, y3, hu3, t3⟩ := hg 3 _ rfl
  obtain rfl : c3 = u3 := by simpa using hu3
  obtain ⟨u4, y4, hu4, t4⟩ := hg 4 _ rfl
  obtain rfl : c4 = u4 := by simpa using hu4
  obtain ⟨u5, y5, hu5, t5⟩ := hg 5 _ rfl
  obtain rfl : c5 = u5 := by simpa using hu5
  obtain ⟨u6, y6, hu6, t6⟩ := hg 6 _ rfl
  obtain rfl : c6 = u6 := by simpa using hu6
  obtain ⟨u7, y7, hu7, t7⟩ := hg 7 _ rfl
  obtain rfl : c7 = u7 := by simpa using hu7
  obtain ⟨u8, y8, hu8, t8⟩ := hg 8 _ rfl
  obtain rfl : c8 = u8 := by simpa using hu8
  obtain ⟨u9, y9, hu9, t9⟩ := hg 9 _ rfl
  obtain rfl : c9 = u9 := by simpa using hu9
  obtain ⟨u10, y10, hu10, t10⟩ := hg 10 _ rfl
  obtain rfl : c10 = u10 := by simpa using hu10
  obtain ⟨u11, y11, hu11, t11⟩ := hg 11 _ rfl
  obtain rfl : c11 = u11 := by simpa using hu11
  obtain ⟨u12, y12, hu12, t12⟩ := hg 12 _ rfl
  obtain rfl : c12 = u12 := by simpa using hu12
  clear hg hu0 hu1 hu2 hu3 hu4 hu5 hu6 hu7 hu8 hu9 hu10 hu11 hu12
  obtain ⟨A0, n0_, k0, fp_, rfl, -, hR0, -⟩ := read_row Try.underlying34 Try.underlying92 (by kernel_rfl) (by kernel_rfl) (by decide) (ints_of (k := 3) (by kernel_rfl) Try.underlying3) t0
  obtain ⟨A1, n1_, k1, fu_, rfl, -, hR1, -⟩ := read_row Try.underlying35 Try.underlying94 (by kernel_rfl) (by kernel_rfl) (by decide) (ints_of (k := 3) (by kernel_rfl) Try.underlying3) t1
  obtain ⟨A2, n2_, k2, fi_, rfl, -, hR2, -⟩ := read_row Try.underlying36 Try.underlying96 (by kernel_rfl) (by kernel_rfl) (by decide) (ints_of (k := 3) (by kernel_rfl) Try.underlying3) t2
  obtain ⟨A4, n4_, k4, fg_, rfl, -, hR4, -⟩ := read_row Try.underlying38 Try.underlying51 (by kernel_rfl) (by kernel_rfl) (by decide) (ints_of (k := 3) (by kernel_rfl) Try.underlying3) t4
  obtain ⟨A3, n3_, k3, K_, rfl, hR3, hK3⟩ := read_kinds Try.underlying37 Try.underlying44 (by kernel_rfl) (by kernel_rfl) Try.underlying3 rfl Try.underlying42 Try.underlying98 (by kernel_rfl) (by kernel_rfl) Try.underlying3 Try.underlying3 Try.underlying3 Try.underlying3 t3
  obtain ⟨A5, n5_, k5, fa_, rfl, hR5⟩ := read_packs Try.underlying39 Try.underlying57 Try.underlying55 (by kernel_rfl) ⟨rfl, rfl, rfl, rfl, rfl, rfl⟩ ⟨by kernel_rfl, by kernel_rfl, by kernel_rfl, by kernel_rfl, by kernel_rfl, by kernel_rfl⟩ Try.underlying3 Try.underlying3 Try.underlying3 Try.underlying3 Try.underlying3 t5
  have hn0 := nil_of Try.underlying34 t0
  have hn1 := nil_of Try.underlying35 t1
  have hn2 := nil_of Try.underlying36 t2
  have hn3 := nil_of Try.underlying37 t3
  have hn4 := nil_of Try.underlying38 t4
  have hn5 := nil_of Try.underlying39 t5
  obtain ⟨i6, e6, -, -⟩ := DataW.trod_int Try.underlying3 t6
  obtain rfl : c6 = .int .i64 i6 := by simpa using e6
  obtain ⟨i7, e7, -, -⟩ := DataW.trod_int Try.underlying3 t7
  obtain rfl : c7 = .int .i64 i7 := by simpa using e7
  obtain ⟨i8, e8, -, -⟩ := DataW.trod_int Try.underlying3 t8
  obtain rfl : c8 = .int .i64 i8 := by simpa using e8
  obtain ⟨i9, e9, -, -⟩ := DataW.trod_int Try.underlying3 t9
  obtain rfl : c9 = .int .i64 i9 := by simpa using e9
  obtain ⟨i10, e10, -, -⟩ := DataW.trod_int Try.underlying3 t10
  obtain rfl : c10 = .int .i64 i10 := by simpa using e10
  obtain ⟨i11, e11, -, -⟩ := DataW.trod_int Try.underlying3 t11
  obtain rfl : c11 = .int .i64 i11 := by simpa using e11
  obtain ⟨i12, e12, -, -⟩ := DataW.trod_int Try.underlying3 t12
  obtain rfl : c12 = .int .i64 i12 := by simpa using e12
  obtain ⟨x1, rfl, rfl, rfl, w1⟩ := open_int Try.underlying3 (hval 1 3 v1 rfl rfl) h1
  obtain ⟨x2, rfl, rfl, rfl, w2⟩ := open_int Try.underlying3 (hval 2 3 v2 rfl rfl) h2
  obtain ⟨sa3, sl3, sc3, rfl⟩ := okWide_slice Try.underlying28 (hval 3 28 v3 rfl rfl)
  obtain ⟨f3, hf3⟩ := h3
  obtain ⟨A3_, k3_, g3_, es3, hC3, -, -, -⟩ := read_ints Try.underlying28 Try.underlying3 (by kernel_rfl) (v := .slice sa3 sl3 sc3) (by simpa [Value.cells] using hf3)
  injection es3 with es3a es3b es3c
  subst es3a es3b es3c
  clear hA0 hval0
  simp only [List.append_nil] at hW'
  refine (topWater_any ⟨A0, A1, A2, A3, A4, A5, n0_, n1_, n2_, n3_, n4_, n5_, k0, k1, k2, k3, k4, k5, fp_, fu_, fi_, K_, fg_, fa_, i6, i7, i8, i9, i10, i11, i12⟩ x1 x2 g3_ sa3 sc3 W ⟨hR0, hR1, hR2, hR3, hR4, hR5⟩ ⟨hn0, hn1, hn2, hn3, hn4, hn5, hK3⟩ hC3).mono fun e W' ⟨he, hb⟩ => ?_
  subst he
  exact ⟨_, rfl, law_post laidOut hW' (by kernel_rfl) rfl rfl rfl rfl rfl Try.underlying4 hb⟩

theorem proved : Rows.TopWaterSaid :=
  OpenClaim.holds_of_wide 4 Try.f4 rfl rfl rfl rfl rfl rfl rfl ⟨rfl, rfl, rfl, rfl, rfl⟩ rfl rfl rfl rfl rfl (by kernel_rfl) Try.func4 (by kernel_rfl)
    (of_decide_eq_true (by kernel_rfl)) (by unfold Func.isWrapper; first | (rw [if_pos (by decide +kernel)]; kernel_rfl) | (rw [if_neg (by decide +kernel)]; exact ⟨rfl, rfl⟩))
    (fun os started H enc _ => lifted os started H enc)
#print axioms proved
end Go.Proofs.Ytljhocdbfbjpiaa.topWater
