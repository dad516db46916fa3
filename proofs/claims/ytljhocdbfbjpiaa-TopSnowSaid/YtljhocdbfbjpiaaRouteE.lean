/-
  The search for the shifts: where it turns back at once, and at its end.
-/
import Derived.Test.YtljhocdbfbjpiaaRouteD
import Derived.Test.YtljhocdbfbjpiaaCopyRows
namespace Go.Proofs.Ytljhocdbfbjpiaa
open Go.RowKit

theorem shift_size : (Try.prog.info? 163).map (·.size) = some 4 := by kernel_rfl
def SL.own (L : SL) (k : Nat) : Prop := k = L.S ∨ k = L.pl ∨ k = L.bs
def PlacePost (L : SL) (B : Nat) (w W : World) (t : RP) (e : Ending) (W' : World) : Prop := e = .returned (.tuple #[]) ∧ SP L B w W' t ∧ Kept L.own W W'
theorem SP.src {L : SL} {B : Nat} {w W W' : World} {t : RP} (h : SP L B w W t) (hb : Below W.heap.size W W') : ∀ (j : Nat) (v : Value), (shC t.p0 ++ shC t.p1)[j]? = some v → W'.cell? ((⟨L.pl, 0, none⟩ : Addr).add j) = some v := fun j v hv => by
  rw [Go.WideShapes.add_plain, Nat.zero_add, hb.cell (p := ⟨L.pl, j, none⟩) h.f.zp]
  match j, hv with
  | 0, hv => simp [shC] at hv; subst hv; exact h.v.p00
  | 1, hv => simp [shC] at hv; subst hv; exact h.v.p01
  | 2, hv => simp [shC] at hv; subst hv; exact h.v.p02
  | 3, hv => simp [shC] at hv; subst hv; exact h.v.p03
  | 4, hv => simp [shC] at hv; subst hv; exact h.v.p10
  | 5, hv => simp [shC] at hv; subst hv; exact h.v.p11
  | 6, hv => simp [shC] at hv; subst hv; exact h.v.p12
  | 7, hv => simp [shC] at hv; subst hv; exact h.v.p13
theorem sh_one (a b : Sh) : ∀ v ∈ shC a ++ shC b, v.oneCell' = true := fun v hv => by
  simp only [shC, List.mem_append, List.mem_cons, List.not_mem_nil, or_false] at hv
  rcases hv with (rfl | rfl | rfl | rfl) | (rfl | rfl | rfl | rfl) <;> rfl

set_option maxRecDepth 20000 in
set_option maxHeartbeats 4000000 in
theorem place_out (L : SL) (B : Nat) (w W : World) (t : RP) (left from_ fin : Int) (hS : SP L B w W t) (h : t.e ≤ fin) :
    Calls Try.prog 49 #[.pointer (some ⟨L.S, 0, none⟩), .int .i64 left, .int .i64 from_, .int .i64 fin] W (PlacePost L B w W t) := by
  have HS := Lib.hid hS
  have e5 := hS.v.e
  have zS := hS.f.zS
  clear hS
  go_enter Try.func49, Try.ntmps49
  go_wp2
  exact bodyPost_ret (results_none rfl _ _ _) rfl ⟨rfl, HS.out, Kept.refl _ _⟩
set_option maxRecDepth 20000 in
set_option maxHeartbeats 4000000 in
theorem place_leaf (L : SL) (B : Nat) (w W : World) (t : RP) (from_ fin : Int) (hS : SP L B w W t) (h : fin < t.e) :
    Calls Try.prog 49 #[.pointer (some ⟨L.S, 0, none⟩), .int .i64 0, .int .i64 from_, .int .i64 fin] W (PlacePost L B w W { t with b0 := t.p0, b1 := t.p1, e := fin }) := by
  have HS := Lib.hid hS
  have e5 := hS.v.e
  have s3 := hS.f.s3
  have s4 := hS.f.s4
  have f5 := hS.f.f5
  have zS := hS.f.zS
  have nS := hS.n.sS
  have hd : decide (t.e ≤ fin) = false := decide_eq_false (by omega)
  have HD := Lib.hid (below_drew (Below.refl W.heap.size W))
  have HSD := Lib.hid (hS.on HD.out hS.lo)
  have HFIN := Lib.hid ((HSD.out.better).setE fin)
  have k1 : ∀ cs, (W.drew.setRow L.bs cs).frozen? ⟨L.S, 5, none⟩ = false := fun cs => (World.frozen?_of_block (a := ⟨L.S, 5, none⟩) (setRow_other _ _ _ _ nS.symm)).trans HSD.out.f.f5
  have k2 : ∀ cs, (W.drew.setRow L.bs cs).cell? ⟨L.S, 5, none⟩ = some (.int .i64 t.e) := fun cs => (World.cell?_of_block (a := ⟨L.S, 5, none⟩) (setRow_other _ _ _ _ nS.symm)).trans HSD.out.v.e
  have hlist : List.take 0 (shC t.b0 ++ shC t.b1).toArray.toList ++ (shC t.p0 ++ shC t.p1 ++ List.drop (0 + (shC t.p0 ++ shC t.p1).length) (shC t.b0 ++ shC t.b1).toArray.toList) = shC t.p0 ++ shC t.p1 := by simp [shC]
  have HL := Lib.hid hlist
  clear hS h hlist
  go_enter Try.func49, Try.ntmps49
  go_wp2
  go_region_law (refine step_copy_rows rfl (.tmp 24) (.tmp 28) 66 66 rfl 163 4 Try.underlying66 shift_size L.bs 0 2 2 ⟨L.pl, 0, none⟩ 2 2 rfl rfl (shC t.b0 ++ shC t.b1).toArray 163 HSD.out.v.b (shC t.p0 ++ shC t.p1) rfl (HS.out.src HD.out) (by simp [shC]) (sh_one _ _) ?_; rw [HL.out])
  all_goals
    go_wp2
    exact bodyPost_ret (results_none rfl _ _ _) rfl ⟨rfl, HFIN.out, ((Kept.of_below HD.out).row (.inr (.inr rfl)) _).set (.inl rfl) _⟩
end Go.Proofs.Ytljhocdbfbjpiaa
