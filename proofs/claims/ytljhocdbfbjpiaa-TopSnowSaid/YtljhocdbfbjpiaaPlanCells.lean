/-
  Rows of guns and of hours as the cells that an append copies; an append of any number of elements, none too.
-/
import Derived.Test.YtljhocdbfbjpiaaPlanRead
import Derived.Test.YtljhocdbfbjpiaaPlanOpen
import Derived.Deep.AppendLies
import Derived.Laws.AppendOwn
import Derived.Laws.OwnMore
namespace Go.Proofs.Ytljhocdbfbjpiaa
open Go.RowKit

def gunCells : List Plan.Gun → List Value
  | [] => []
  | g :: r => .int .i64 g.id :: .int .i64 g.water :: .int .i64 g.power :: .int .i64 g.value :: gunCells r
def hourCells : List Plan.Hour → List Value
  | [] => []
  | h :: r => .int .i64 h.power :: .int .i64 h.factor :: hourCells r
theorem gunCells_len : ∀ gs : List Plan.Gun, (gunCells gs).length = gs.length * 4
  | [] => rfl
  | _ :: r => by simp [gunCells, gunCells_len r]; omega
theorem hourCells_len : ∀ hs : List Plan.Hour, (hourCells hs).length = hs.length * 2
  | [] => rfl
  | _ :: r => by simp [hourCells, hourCells_len r]; omega
theorem gunCells_one : ∀ gs : List Plan.Gun, ∀ u ∈ gunCells gs, u.oneCell' = true
  | [], u, h => absurd h (by simp [gunCells])
  | g :: r, u, h => by
    simp only [gunCells, List.mem_cons] at h
    rcases h with rfl | rfl | rfl | rfl | h
    · rfl
    · rfl
    · rfl
    · rfl
    · exact gunCells_one r u h
theorem hourCells_one : ∀ hs : List Plan.Hour, ∀ u ∈ hourCells hs, u.oneCell' = true
  | [], u, h => absurd h (by simp [hourCells])
  | g :: r, u, h => by
    simp only [hourCells, List.mem_cons] at h
    rcases h with rfl | rfl | h
    · rfl
    · rfl
    · exact hourCells_one r u h
theorem gunCells_app : ∀ a b : List Plan.Gun, gunCells (a ++ b) = gunCells a ++ gunCells b
  | [], _ => rfl
  | _ :: r, b => by simp [gunCells, gunCells_app r b]
theorem gun_news {w : World} {b : Nat} : ∀ {gs : List Plan.Gun} {off : Nat}, (∀ i, i < gs.length → GunAt w b (off + i * 4) (Plan.gAt gs i)) → ∀ j u, (gunCells gs)[j]? = some u → w.cell? ⟨b, off + j, none⟩ = some u
  | [], _, _, j, u, h => by simp [gunCells] at h
  | g :: r, off, hg, j, u, h => by
    have h0 := hg 0 (by simp)
    have e0 : Plan.gAt (g :: r) 0 = g := by simp [Plan.gAt]
    rw [e0, Nat.zero_mul, Nat.add_zero] at h0
    match j with
    | 0 => simp [gunCells] at h; subst h; exact h0.c0
    | 1 => simp [gunCells] at h; subst h; exact h0.c1
    | 2 => simp [gunCells] at h; subst h; exact h0.c2
    | 3 => simp [gunCells] at h; subst h; exact h0.c3
    | j + 4 =>
      have ih := gun_news (w := w) (b := b) (gs := r) (off := off + 4) (fun i hi => by
        have h1 := hg (i + 1) (by simpa using hi)
        have e : Plan.gAt (g :: r) (i + 1) = Plan.gAt r i := by simp [Plan.gAt]
        rw [e, show off + (i + 1) * 4 = off + 4 + i * 4 by omega] at h1
        exact h1) j u (by simpa [gunCells] using h)
      rw [show off + (j + 4) = off + 4 + j by omega]
      exact ih
theorem hour_news {w : World} {b : Nat} : ∀ {hs : List Plan.Hour} {off : Nat}, (∀ i, i < hs.length → HourAt w b (off + i * 2) (Plan.hAt hs i)) → ∀ j u, (hourCells hs)[j]? = some u → w.cell? ⟨b, off + j, none⟩ = some u
  | [], _, _, j, u, h => by simp [hourCells] at h
  | g :: r, off, hg, j, u, h => by
    have h0 := hg 0 (by simp)
    have e0 : Plan.hAt (g :: r) 0 = g := by simp [Plan.hAt]
    rw [e0, Nat.zero_mul, Nat.add_zero] at h0
    match j with
    | 0 => simp [hourCells] at h; subst h; exact h0.c0
    | 1 => simp [hourCells] at h; subst h; exact h0.c1
    | j + 2 =>
      have ih := hour_news (w := w) (b := b) (hs := r) (off := off + 2) (fun i hi => by
        have h1 := hg (i + 1) (by simpa using hi)
        have e : Plan.hAt (g :: r) (i + 1) = Plan.hAt r i := by simp [Plan.hAt]
        rw [e, show off + (i + 1) * 2 = off + 2 + i * 2 by omega] at h1
        exact h1) j u (by simpa [hourCells] using h)
      rw [show off + (j + 2) = off + 2 + j by omega]
      exact ih
theorem gun_read {w : World} {b : Nat} : ∀ {gs : List Plan.Gun} {off : Nat}, (∀ j u, (gunCells gs)[j]? = some u → w.cell? ⟨b, off + j, none⟩ = some u) → ∀ i, i < gs.length → GunAt w b (off + i * 4) (Plan.gAt gs i)
  | [], _, _, i, hi => absurd hi (by simp)
  | g :: r, off, h, 0, _ => by
    have e0 : Plan.gAt (g :: r) 0 = g := by simp [Plan.gAt]
    rw [e0]
    exact ⟨h 0 _ (by simp [gunCells]), h 1 _ (by simp [gunCells]), h 2 _ (by simp [gunCells]), h 3 _ (by simp [gunCells])⟩
  | g :: r, off, h, i + 1, hi => by
    have e : Plan.gAt (g :: r) (i + 1) = Plan.gAt r i := by simp [Plan.gAt]
    rw [e, show off + (i + 1) * 4 = off + 4 + i * 4 by omega]
    refine gun_read (gs := r) (fun j u hu => ?_) i (by simpa using hi)
    rw [show off + 4 + j = off + (j + 4) by omega]
    exact h (j + 4) u (by simpa [gunCells] using hu)
theorem hour_read {w : World} {b : Nat} : ∀ {hs : List Plan.Hour} {off : Nat}, (∀ j u, (hourCells hs)[j]? = some u → w.cell? ⟨b, off + j, none⟩ = some u) → ∀ i, i < hs.length → HourAt w b (off + i * 2) (Plan.hAt hs i)
  | [], _, _, i, hi => absurd hi (by simp)
  | g :: r, off, h, 0, _ => by
    have e0 : Plan.hAt (g :: r) 0 = g := by simp [Plan.hAt]
    rw [e0]
    exact ⟨h 0 _ (by simp [hourCells]), h 1 _ (by simp [hourCells])⟩
  | g :: r, off, h, i + 1, hi => by
    have e : Plan.hAt (g :: r) (i + 1) = Plan.hAt r i := by simp [Plan.hAt]
    rw [e, show off + (i + 1) * 2 = off + 2 + i * 2 by omega]
    refine hour_read (hs := r) (fun j u hu => ?_) i (by simpa using hi)
    rw [show off + 2 + j = off + (j + 2) by omega]
    exact h (j + 2) u (by simpa [hourCells] using hu)
theorem RdG.of_owns {w : World} {base n : Nat} {e : TypeId} {A : Option Addr} {cap : Nat} {gs : List Plan.Gun} (h : w.ownsRow base e 4 (.slice A n cap) n (gunCells gs)) : RdG w A gs := fun hp => by
  have hl := h.1
  rw [gunCells_len] at hl
  rcases h.2 with ⟨_, h0⟩ | ⟨g, c, cur, hv, hb, hg, hr⟩
  · omega
  · injection hv with hv
    subst hv
    have hc := h.cells (g := g) rfl
    have hlt := h.lt g rfl
    refine ⟨g, 0, rfl, hlt.2, gun_read fun j u hu => ?_⟩
    have := hc j u hu
    rw [Go.WideShapes.add_plain] at this
    exact this
theorem RdH.of_owns {w : World} {base n : Nat} {e : TypeId} {A : Option Addr} {cap : Nat} {hs : List Plan.Hour} (h : w.ownsRow base e 2 (.slice A n cap) n (hourCells hs)) : RdH w A hs := fun hp => by
  have hl := h.1
  rw [hourCells_len] at hl
  rcases h.2 with ⟨_, h0⟩ | ⟨g, c, cur, hv, hb, hg, hr⟩
  · omega
  · injection hv with hv
    subst hv
    have hc := h.cells (g := g) rfl
    have hlt := h.lt g rfl
    refine ⟨g, 0, rfl, hlt.2, hour_read fun j u hu => ?_⟩
    have := hc j u hu
    rw [Go.WideShapes.add_plain] at this
    exact this
/-- An hour's power is put. -/
theorem RdH.put {w : World} {g off : Nat} {hs : List Plan.Hour} (h : RdH w (some ⟨g, off, none⟩) hs) {i : Nat} (hi : i < hs.length) (x : Int) : RdH (w.setCell ⟨g, off + i * 2, none⟩ (.int .i64 x)) (some ⟨g, off, none⟩) (hs.set i ⟨x, (Plan.hAt hs i).factor⟩) := fun _ => by
  obtain ⟨b, o, e, h1, h2⟩ := h (by omega)
  injection e with e
  injection e with e1 e2
  subst e1 e2
  refine ⟨g, off, rfl, by simpa using h1, fun k hk => ?_⟩
  have hk' : k < hs.length := by simpa using hk
  have h3 := h2 k hk'
  by_cases hki : i = k
  · subst hki
    have e : Plan.hAt (hs.set i ⟨x, (Plan.hAt hs i).factor⟩) i = ⟨x, (Plan.hAt hs i).factor⟩ := by simp [Plan.hAt, hi]
    rw [e]
    refine ⟨?_, ?_⟩
    · rw [cell_set_self, h3.c0]; rfl
    · rw [World.cell?_setCell_other _ _ _ _ (by intro e; injection e with _ e; omega)]; exact h3.c1
  · have e : Plan.hAt (hs.set i ⟨x, (Plan.hAt hs i).factor⟩) k = Plan.hAt hs k := by simp [Plan.hAt, hki]
    rw [e]
    refine ⟨?_, ?_⟩
    · rw [World.cell?_setCell_other _ _ _ _ (by intro e; injection e with _ e; omega)]; exact h3.c0
    · rw [World.cell?_setCell_other _ _ _ _ (by intro e; injection e with _ e; omega)]; exact h3.c1
theorem RdG.take {w : World} {A : Option Addr} {gs : List Plan.Gun} (h : RdG w A gs) (i : Nat) : RdG w A (gs.take i) := fun hp => by
  have hl : (gs.take i).length = min i gs.length := List.length_take
  obtain ⟨b, off, e, h1, h2⟩ := h (by omega)
  refine ⟨b, off, e, h1, fun k hk => ?_⟩
  have e : Plan.gAt (gs.take i) k = Plan.gAt gs k := by
    have : k < i := by omega
    simp [Plan.gAt, this]
  rw [e]; exact h2 k (by omega)
theorem RdG.drop {w : World} {b off : Nat} {gs : List Plan.Gun} (h : RdG w (some ⟨b, off, none⟩) gs) (i : Nat) : RdG w (some ⟨b, off + i * 4, none⟩) (gs.drop i) := fun hp => by
  have hl : (gs.drop i).length = gs.length - i := List.length_drop
  obtain ⟨b', off', e, h1, h2⟩ := h (by omega)
  injection e with e
  injection e with e1 e2
  subst e1 e2
  refine ⟨b, off + i * 4, rfl, h1, fun k hk => ?_⟩
  have e : Plan.gAt (gs.drop i) k = Plan.gAt gs (i + k) := by simp [Plan.gAt]
  rw [e, show off + i * 4 + k * 4 = off + (i + k) * 4 by omega]
  exact h2 (i + k) (by omega)
theorem RdG.news {w : World} {b off : Nat} {gs : List Plan.Gun} (h : RdG w (some ⟨b, off, none⟩) gs) : ∀ j u, (gunCells gs)[j]? = some u → w.cell? ((⟨b, off, none⟩ : Addr).add j) = some u := fun j u hu => by
  have hp : 0 < gs.length := by
    cases gs with
    | nil => simp [gunCells] at hu
    | cons g r => simp
  obtain ⟨b', off', e, h1, h2⟩ := h hp
  injection e with e
  injection e with e1 e2
  subst e1 e2
  rw [Go.WideShapes.add_plain]
  exact gun_news h2 j u hu
theorem RdH.news {w : World} {b off : Nat} {hs : List Plan.Hour} (h : RdH w (some ⟨b, off, none⟩) hs) : ∀ j u, (hourCells hs)[j]? = some u → w.cell? ((⟨b, off, none⟩ : Addr).add j) = some u := fun j u hu => by
  have hp : 0 < hs.length := by
    cases hs with
    | nil => simp [hourCells] at hu
    | cons g r => simp
  obtain ⟨b', off', e, h1, h2⟩ := h hp
  injection e with e
  injection e with e1 e2
  subst e1 e2
  rw [Go.WideShapes.add_plain]
  exact hour_news h2 j u hu

section
variable {P : Program} (w : World)
/-- An append of m elements, m perhaps 0. -/
theorem wp_append_any {o : Oper} {a : Act} {K : Act → World → Prop} {Q : Exit → Act → World → Prop} (s x : Operand) (t : TypeId)
    (ho : o.op = .call { callee := .builtin .append, args := #[s, x], argTypes := #[t, t] })
    (base : Nat) (e : TypeId) (i : TypeInfo) (z : Value) (size bytes : Nat) (ht : P.underlying t = some (.slice e)) (hi : P.info? e = some i) (hz : i.zero = some z)
    (hsize : i.size = size) (hby : i.bytes = bytes) (hzs : z.cells.size = size) (hsz : 0 < size)
    (v : Value) (n : Nat) (xs : List Value) (hs : a.eval s = v) (hown : w.ownsRow base e size v n xs)
    (ad : Addr) (m c : Nat) (news : List Value) (hx : a.eval x = .slice (some ad) m c) (hl : news.length = m * size) (hnews : ∀ j u, news[j]? = some u → w.cell? (ad.add j) = some u) (h1 : ∀ u ∈ news, u.oneCell' = true)
    (h63 : n + m ≤ maxLen) (hbytes : (n + m) * bytes ≤ 140737488355328) (hbase : base ≤ w.heap.size)
    (h : ∀ A cap w', w'.ownsRow base e size (.slice A (n + m) cap) (n + m) (xs ++ news) → w.grownBy w' v.ownBlock → K (a.put o.dst (.slice A (n + m) cap)) w') : o.wp P a w K Q := by
  obtain ⟨v', w', hr, h2, h3, _, h5⟩ := run_append_own_at (P := P) w base t o.type e i z size bytes ht hi hz hsize hby hzs hsz v n xs hown ad m c news hl hnews h1 h63 hbytes hbase
  obtain ⟨A, cap, rfl⟩ : ∃ A cap, v' = .slice A (n + m) cap := by
    rcases h2.2 with ⟨hv, h0⟩ | ⟨g, cap, cur, hv, _⟩
    · exact ⟨none, 0, by rw [hv, h0]⟩
    · exact ⟨_, _, hv⟩
  unfold Oper.wp execOp
  simp only [ho, resolve, invoke, builtin, Sem.run_bind, Sem.run_pure, Result.andThen_ok, List.map_toArray, List.map_cons, List.map_nil, hs, hx, hr]
  exact h A cap w' h2 h3
theorem wpList_append_any {ops : Array Oper} {rest : List Oper} {o : Oper} {a : Act} {Q : Exit → Act → World → Prop} (hgd : o.guard = none) (s x : Operand) (t : TypeId)
    (ho : o.op = .call { callee := .builtin .append, args := #[s, x], argTypes := #[t, t] })
    (base : Nat) (e : TypeId) (i : TypeInfo) (z : Value) (size bytes : Nat) (ht : P.underlying t = some (.slice e)) (hi : P.info? e = some i) (hz : i.zero = some z)
    (hsize : i.size = size) (hby : i.bytes = bytes) (hzs : z.cells.size = size) (hsz : 0 < size)
    (v : Value) (n : Nat) (xs : List Value) (hs : a.eval s = v) (hown : w.ownsRow base e size v n xs)
    (ad : Addr) (m c : Nat) (news : List Value) (hx : a.eval x = .slice (some ad) m c) (hl : news.length = m * size) (hnews : ∀ j u, news[j]? = some u → w.cell? (ad.add j) = some u) (h1 : ∀ u ∈ news, u.oneCell' = true)
    (h63 : n + m ≤ maxLen) (hbytes : (n + m) * bytes ≤ 140737488355328) (hbase : base ≤ w.heap.size)
    (h : ∀ A cap w', w'.ownsRow base e size (.slice A (n + m) cap) (n + m) (xs ++ news) → w.grownBy w' v.ownBlock → wpList P ops Q rest (a.put o.dst (.slice A (n + m) cap)) w') : wpList P ops Q (o :: rest) a w :=
  wpList_plain hgd fun _ hK => wp_append_any w s x t ho base e i z size bytes ht hi hz hsize hby hzs hsz v n xs hs hown ad m c news hx hl hnews h1 h63 hbytes hbase fun A cap w' h2 h3 => hK _ _ (h A cap w' h2 h3)
theorem step_append_any {ops : Array Oper} {o : Oper} {a : Act} {K : Act → World → Prop} {Q : Exit → Act → World → Prop} {E : Prop} (hgd : o.guard = none) (s x : Operand) (t : TypeId)
    (ho : o.op = .call { callee := .builtin .append, args := #[s, x], argTypes := #[t, t] })
    (base : Nat) (e : TypeId) (i : TypeInfo) (z : Value) (size bytes : Nat) (ht : P.underlying t = some (.slice e)) (hi : P.info? e = some i) (hz : i.zero = some z)
    (hsize : i.size = size) (hby : i.bytes = bytes) (hzs : z.cells.size = size) (hsz : 0 < size)
    (v : Value) (n : Nat) (xs : List Value) (hs : a.eval s = v) (hown : w.ownsRow base e size v n xs)
    (ad : Addr) (m c : Nat) (news : List Value) (hx : a.eval x = .slice (some ad) m c) (hl : news.length = m * size) (hnews : ∀ j u, news[j]? = some u → w.cell? (ad.add j) = some u) (h1 : ∀ u ∈ news, u.oneCell' = true)
    (h63 : n + m ≤ maxLen) (hbytes : (n + m) * bytes ≤ 140737488355328) (hbase : base ≤ w.heap.size)
    (h : ∀ A cap w', w'.ownsRow base e size (.slice A (n + m) cap) (n + m) (xs ++ news) → w.grownBy w' v.ownBlock → K (a.put o.dst (.slice A (n + m) cap)) w') :
    if Region.wanted o (yielded ops a.tmps) = true then Oper.wp P o a w K Q else E := by
  have hw : Region.wanted o (yielded ops a.tmps) = true := by simp [Region.wanted, hgd]
  rw [if_pos hw]
  exact wp_append_any w s x t ho base e i z size bytes ht hi hz hsize hby hzs hsz v n xs hs hown ad m c news hx hl hnews h1 h63 hbytes hbase h
end
end Go.Proofs.Ytljhocdbfbjpiaa
