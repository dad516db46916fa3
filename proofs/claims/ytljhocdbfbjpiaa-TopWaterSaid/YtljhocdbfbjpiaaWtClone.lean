/-
  Copies of the slices of a system.
-/
import Derived.Test.YtljhocdbfbjpiaaWtDraws
import Derived.Deep.AppendLies
import Derived.Laws.AppendOwn
import Derived.Laws.OwnMore
namespace Go.Proofs.Ytljhocdbfbjpiaa
open Go.RowKit

section
variable {P : Program} (w : World)
/-- An append of m elements, m perhaps 0. -/
theorem wp_append_any {o : Oper} {a : Act} {K : Act → World → Prop} {Q : Exit → Act → World → Prop} (s x : Operand) (t : TypeId)
    (ho : o.op = .call { callee := .builtin .append, args := #[s, x], argTypes := #[t, t] })
    (base : Nat) (e : TypeId) (i : TypeInfo) (z : Value) (size bytes : Nat) (ht : P.underlying t = some (.slice e)) (hi : P.info? e = some i) (hz : i.zero = some z)
    (hsize : i.size = size) (hby : i.bytes = bytes) (hzs : z.cells.size = size) (hsz : 0 < size)
    (v : Value) (n : Nat) (xs : List Value) (hs : a.eval s = v) (hown : w.ownsRow base e size v n xs)
    (ad : Addr) (m c : Nat) (news : List Value) (hx : a.eval x = .slice (some ad) m c) (hl : news.length = m * size) (hnews : ∀ j u, news[j]? = some u → w.cell? (ad.add j) = some u) (h1 : ∀ u ∈ news, u.oneCell' = true)
    (h63 : n + m ≤ maxLen) (hbytes : (n + m) * bytes ≤ 140737488355328) (hbase : base ≤ w.heap.size)
    (h : ∀ A cap w', w'.ownsRow base e size (.slice A (n + m) cap) (n + m) (xs ++ news) → w.grownBy w' v.ownBlock → K (a.put o.dst (.slice A (n + m) cap)) w') : o.wp P a w K Q := by
  obtain ⟨v', w', hr, h2, h3, _, h5⟩ := run_append_own_at (P := P) w base t o.type e i z size bytes ht hi hz hsize hby hzs hsz v n xs hown ad m c news hl hnews h1 h63 hbytes hbase
  obtain ⟨A, cap, rfl⟩ : ∃ A cap, v' = .slice A (n + m) cap := by
    rcases h2.2 with ⟨hv, h0⟩ | ⟨g, cap, cur, hv, _⟩
    · exact ⟨none, 0, by rw [hv, h0]⟩
    · exact ⟨_, _, hv⟩
  unfold Oper.wp execOp
  simp only [ho, resolve, invoke, builtin, Sem.run_bind, Sem.run_pure, Result.andThen_ok, List.map_toArray, List.map_cons, List.map_nil, hs, hx, hr]
  exact h A cap w' h2 h3
theorem wpList_append_any {ops : Array Oper} {rest : List Oper} {o : Oper} {a : Act} {Q : Exit → Act → World → Prop} (hgd : o.guard = none) (s x : Operand) (t : TypeId)
    (ho : o.op = .call { callee := .builtin .append, args := #[s, x], argTypes := #[t, t] })
    (base : Nat) (e : TypeId) (i : TypeInfo) (z : Value) (size bytes : Nat) (ht : P.underlying t = some (.slice e)) (hi : P.info? e = some i) (hz : i.zero = some z)
    (hsize : i.size = size) (hby : i.bytes = bytes) (hzs : z.cells.size = size) (hsz : 0 < size)
    (v : Value) (n : Nat) (xs : List Value) (hs : a.eval s = v) (hown : w.ownsRow base e size v n xs)
    (ad : Addr) (m c : Nat) (news : List Value) (hx : a.eval x = .slice (some ad) m c) (hl : news.length = m * size) (hnews : ∀ j u, news[j]? = some u → w.cell? (ad.add j) = some u) (h1 : ∀ u ∈ news, u.oneCell' = true)
    (h63 : n + m ≤ maxLen) (hbytes : (n + m) * bytes ≤ 140737488355328) (hbase : base ≤ w.heap.size)
    (h : ∀ A cap w', w'.ownsRow base e size (.slice A (n + m) cap) (n + m) (xs ++ news) → w.grownBy w' v.ownBlock → wpList P ops Q rest (a.put o.dst (.slice A (n + m) cap)) w') : wpList P ops Q (o :: rest) a w :=
  wpList_plain hgd fun _ hK => wp_append_any w s x t ho base e i z size bytes ht hi hz hsize hby hzs hsz v n xs hs hown ad m c news hx hl hnews h1 h63 hbytes hbase fun A cap w' h2 h3 => hK _ _ (h A cap w' h2 h3)
theorem step_append_any {ops : Array Oper} {o : Oper} {a : Act} {K : Act → World → Prop} {Q : Exit → Act → World → Prop} {E : Prop} (hgd : o.guard = none) (s x : Operand) (t : TypeId)
    (ho : o.op = .call { callee := .builtin .append, args := #[s, x], argTypes := #[t, t] })
    (base : Nat) (e : TypeId) (i : TypeInfo) (z : Value) (size bytes : Nat) (ht : P.underlying t = some (.slice e)) (hi : P.info? e = some i) (hz : i.zero = some z)
    (hsize : i.size = size) (hby : i.bytes = bytes) (hzs : z.cells.size = size) (hsz : 0 < size)
    (v : Value) (n : Nat) (xs : List Value) (hs : a.eval s = v) (hown : w.ownsRow base e size v n xs)
    (ad : Addr) (m c : Nat) (news : List Value) (hx : a.eval x = .slice (some ad) m c) (hl : news.length = m * size) (hnews : ∀ j u, news[j]? = some u → w.cell? (ad.add j) = some u) (h1 : ∀ u ∈ news, u.oneCell' = true)
    (h63 : n + m ≤ maxLen) (hbytes : (n + m) * bytes ≤ 140737488355328) (hbase : base ≤ w.heap.size)
    (h : ∀ A cap w', w'.ownsRow base e size (.slice A (n + m) cap) (n + m) (xs ++ news) → w.grownBy w' v.ownBlock → K (a.put o.dst (.slice A (n + m) cap)) w') :
    if Region.wanted o (yielded ops a.tmps) = true then Oper.wp P o a w K Q else E := by
  have hw : Region.wanted o (yielded ops a.tmps) = true := by simp [Region.wanted, hgd]
  rw [if_pos hw]
  exact wp_append_any w s x t ho base e i z size bytes ht hi hz hsize hby hzs hsz v n xs hs hown ad m c news hx hl hnews h1 h63 hbytes hbase h
end

theorem owns_nilc {w : World} {B n z c : Nat} {t : TypeId} {A : Option Addr} {xs : List Value} (h : w.ownsRow B t z (.slice A n c) n xs) : A = none → n = 0 ∧ c = 0 := fun hA => by
  subst hA
  rcases h.2 with ⟨h0, h1⟩ | ⟨g, cap, cur, hv, _⟩
  · injection h0 with _ _ h2
    exact ⟨h1, h2⟩
  · cases hv
/-- What a clone reads: the cells of a slice; a nil slice is the zero value. -/
structure Src (w : World) (A : Option Addr) (n c : Nat) (cells : List Value) : Prop where
  nil : A = none → n = 0 ∧ c = 0
  at_ : ∀ a, A = some a → ∀ j u, cells[j]? = some u → w.cell? (a.add j) = some u

theorem pond_cinfo : (Try.prog.info? 92).map (fun i => (i.zero, i.size, i.bytes)) = some (some (.agg #[.int .i64 0, .int .i64 0, .int .i64 0, .int .i64 0, .int .i64 0]), 5, 40) := by kernel_rfl
set_option maxRecDepth 20000 in
set_option maxHeartbeats 1000000 in
theorem clone_pond (A : Option Addr) (n c : Nat) (cells : List Value) (w : World) (hn : n ≤ 1000) (hl : cells.length = n * 5) (h1 : ∀ u ∈ cells, u.oneCell' = true) (hS : Src w A n c cells) :
    Calls Try.prog 65 #[.slice A n c] w fun e w' => (∃ A' c', e = .returned (.slice A' n c') ∧ (A' = none → n = 0 ∧ c' = 0) ∧ w'.ownsRow w.heap.size 92 5 (.slice A' n c') n cells) ∧ Below w.heap.size w w' := by
  cases A with
  | none =>
    obtain ⟨rfl, rfl⟩ := hS.nil rfl
    have hc0 : cells = [] := List.length_eq_zero_iff.1 (by omega)
    subst hc0
    have he : (binOp .eql 34 (.slice none 0 0) (.slice none 0 0)).run Try.prog w = .ok (.bool true) w := by kernel_rfl
    go_enter Try.func65, Try.ntmps65
    go_wp2
    go_ret
    exact ⟨⟨none, 0, (by first | rfl | trivial), (by first | exact fun _ => ⟨rfl, rfl⟩ | (simp; done)), World.ownsRow_nil _ _ _ _⟩, Below.refl _ _⟩
  | some a =>
    obtain ⟨i0, hi0, hz0, hz1, hz2⟩ := info_parts pond_cinfo
    have HI := Lib.hid (And.intro hi0 (And.intro hz0 (And.intro hz1 hz2)))
    have HS := Lib.hid (hS.at_ a rfl)
    have HC := Lib.hid hl
    have H1 := Lib.hid h1
    have HN := Lib.hid hn
    clear hi0 hz0 hz1 hz2 hS hl h1 hn
    have he : (binOp .eql 34 (.slice (some a) n c) (.slice none 0 0)).run Try.prog w = .ok (.bool false) w := by kernel_rfl
    go_enter Try.func65, Try.ntmps65
    go_wp2_with (at_builtin; refine wpList_append_any _ rfl (.tmp 5) (.tmp 6) 34 rfl (w.heap.size) 92 i0 _ 5 40 Try.underlying34 HI.out.1 HI.out.2.1 HI.out.2.2.1 HI.out.2.2.2 rfl (by omega) (.slice (some ⟨w.heap.size, 0, none⟩) 0 0) 0 [] rfl (World.ownsRow_made _ _ _ (Nat.le_refl _) (by simp [maxLen]) rfl) a n c cells rfl HC.out (fun j u hu => ((Joins.below_alloc1 w _).cell (World.block_lt_of_cell? w _ (HS.out j u hu))).trans (HS.out j u hu)) H1.out (by have := HN.out; simp only [maxLen]; omega) (by have := HN.out; omega) (by simp) ?_; intro A5 c5 w5 hown hgrow)
    have HOW : Hid (w5.ownsRow w.heap.size 92 5 (.slice A5 n c5) n cells) := Lib.hid (by simpa using hown)
    have HGR := Lib.hid hgrow
    clear hown hgrow
    go_wp2
    refine bodyPost_ret (v := .slice A5 n c5) (by first | (simp [results, Try.results65, go_sem]; done) | rfl) rfl ?_
    exact ⟨⟨A5, c5, rfl, owns_nilc HOW.out, HOW.out⟩, (Joins.below_alloc1 _ _).grown HGR.out (by simp) (fun k hk => by simp [Value.ownBlock] at hk; omega)⟩
theorem pump_cinfo : (Try.prog.info? 94).map (fun i => (i.zero, i.size, i.bytes)) = some (some (.agg #[.int .i64 0, .int .i64 0, .int .i64 0]), 3, 24) := by kernel_rfl
set_option maxRecDepth 20000 in
set_option maxHeartbeats 1000000 in
theorem clone_pump (A : Option Addr) (n c : Nat) (cells : List Value) (w : World) (hn : n ≤ 1000) (hl : cells.length = n * 3) (h1 : ∀ u ∈ cells, u.oneCell' = true) (hS : Src w A n c cells) :
    Calls Try.prog 66 #[.slice A n c] w fun e w' => (∃ A' c', e = .returned (.slice A' n c') ∧ (A' = none → n = 0 ∧ c' = 0) ∧ w'.ownsRow w.heap.size 94 3 (.slice A' n c') n cells) ∧ Below w.heap.size w w' := by
  cases A with
  | none =>
    obtain ⟨rfl, rfl⟩ := hS.nil rfl
    have hc0 : cells = [] := List.length_eq_zero_iff.1 (by omega)
    subst hc0
    have he : (binOp .eql 35 (.slice none 0 0) (.slice none 0 0)).run Try.prog w = .ok (.bool true) w := by kernel_rfl
    go_enter Try.func66, Try.ntmps66
    go_wp2
    go_ret
    exact ⟨⟨none, 0, (by first | rfl | trivial), (by first | exact fun _ => ⟨rfl, rfl⟩ | (simp; done)), World.ownsRow_nil _ _ _ _⟩, Below.refl _ _⟩
  | some a =>
    obtain ⟨i0, hi0, hz0, hz1, hz2⟩ := info_parts pump_cinfo
    have HI := Lib.hid (And.intro hi0 (And.intro hz0 (And.intro hz1 hz2)))
    have HS := Lib.hid (hS.at_ a rfl)
    have HC := Lib.hid hl
    have H1 := Lib.hid h1
    have HN := Lib.hid hn
    clear hi0 hz0 hz1 hz2 hS hl h1 hn
    have he : (binOp .eql 35 (.slice (some a) n c) (.slice none 0 0)).run Try.prog w = .ok (.bool false) w := by kernel_rfl
    go_enter Try.func66, Try.ntmps66
    go_wp2_with (at_builtin; refine wpList_append_any _ rfl (.tmp 5) (.tmp 6) 35 rfl (w.heap.size) 94 i0 _ 3 24 Try.underlying35 HI.out.1 HI.out.2.1 HI.out.2.2.1 HI.out.2.2.2 rfl (by omega) (.slice (some ⟨w.heap.size, 0, none⟩) 0 0) 0 [] rfl (World.ownsRow_made _ _ _ (Nat.le_refl _) (by simp [maxLen]) rfl) a n c cells rfl HC.out (fun j u hu => ((Joins.below_alloc1 w _).cell (World.block_lt_of_cell? w _ (HS.out j u hu))).trans (HS.out j u hu)) H1.out (by have := HN.out; simp only [maxLen]; omega) (by have := HN.out; omega) (by simp) ?_; intro A5 c5 w5 hown hgrow)
    have HOW : Hid (w5.ownsRow w.heap.size 94 3 (.slice A5 n c5) n cells) := Lib.hid (by simpa using hown)
    have HGR := Lib.hid hgrow
    clear hown hgrow
    go_wp2
    refine bodyPost_ret (v := .slice A5 n c5) (by first | (simp [results, Try.results66, go_sem]; done) | rfl) rfl ?_
    exact ⟨⟨A5, c5, rfl, owns_nilc HOW.out, HOW.out⟩, (Joins.below_alloc1 _ _).grown HGR.out (by simp) (fun k hk => by simp [Value.ownBlock] at hk; omega)⟩
theorem pipe_cinfo : (Try.prog.info? 96).map (fun i => (i.zero, i.size, i.bytes)) = some (some (.agg #[.int .i64 0, .int .i64 0, .int .i64 0, .int .i64 0, .int .i64 0]), 5, 40) := by kernel_rfl
set_option maxRecDepth 20000 in
set_option maxHeartbeats 1000000 in
theorem clone_pipe (A : Option Addr) (n c : Nat) (cells : List Value) (w : World) (hn : n ≤ 1000) (hl : cells.length = n * 5) (h1 : ∀ u ∈ cells, u.oneCell' = true) (hS : Src w A n c cells) :
    Calls Try.prog 67 #[.slice A n c] w fun e w' => (∃ A' c', e = .returned (.slice A' n c') ∧ (A' = none → n = 0 ∧ c' = 0) ∧ w'.ownsRow w.heap.size 96 5 (.slice A' n c') n cells) ∧ Below w.heap.size w w' := by
  cases A with
  | none =>
    obtain ⟨rfl, rfl⟩ := hS.nil rfl
    have hc0 : cells = [] := List.length_eq_zero_iff.1 (by omega)
    subst hc0
    have he : (binOp .eql 36 (.slice none 0 0) (.slice none 0 0)).run Try.prog w = .ok (.bool true) w := by kernel_rfl
    go_enter Try.func67, Try.ntmps67
    go_wp2
    go_ret
    exact ⟨⟨none, 0, (by first | rfl | trivial), (by first | exact fun _ => ⟨rfl, rfl⟩ | (simp; done)), World.ownsRow_nil _ _ _ _⟩, Below.refl _ _⟩
  | some a =>
    obtain ⟨i0, hi0, hz0, hz1, hz2⟩ := info_parts pipe_cinfo
    have HI := Lib.hid (And.intro hi0 (And.intro hz0 (And.intro hz1 hz2)))
    have HS := Lib.hid (hS.at_ a rfl)
    have HC := Lib.hid hl
    have H1 := Lib.hid h1
    have HN := Lib.hid hn
    clear hi0 hz0 hz1 hz2 hS hl h1 hn
    have he : (binOp .eql 36 (.slice (some a) n c) (.slice none 0 0)).run Try.prog w = .ok (.bool false) w := by kernel_rfl
    go_enter Try.func67, Try.ntmps67
    go_wp2_with (at_builtin; refine wpList_append_any _ rfl (.tmp 5) (.tmp 6) 36 rfl (w.heap.size) 96 i0 _ 5 40 Try.underlying36 HI.out.1 HI.out.2.1 HI.out.2.2.1 HI.out.2.2.2 rfl (by omega) (.slice (some ⟨w.heap.size, 0, none⟩) 0 0) 0 [] rfl (World.ownsRow_made _ _ _ (Nat.le_refl _) (by simp [maxLen]) rfl) a n c cells rfl HC.out (fun j u hu => ((Joins.below_alloc1 w _).cell (World.block_lt_of_cell? w _ (HS.out j u hu))).trans (HS.out j u hu)) H1.out (by have := HN.out; simp only [maxLen]; omega) (by have := HN.out; omega) (by simp) ?_; intro A5 c5 w5 hown hgrow)
    have HOW : Hid (w5.ownsRow w.heap.size 96 5 (.slice A5 n c5) n cells) := Lib.hid (by simpa using hown)
    have HGR := Lib.hid hgrow
    clear hown hgrow
    go_wp2
    refine bodyPost_ret (v := .slice A5 n c5) (by first | (simp [results, Try.results67, go_sem]; done) | rfl) rfl ?_
    exact ⟨⟨A5, c5, rfl, owns_nilc HOW.out, HOW.out⟩, (Joins.below_alloc1 _ _).grown HGR.out (by simp) (fun k hk => by simp [Value.ownBlock] at hk; omega)⟩
theorem gkind_cinfo : (Try.prog.info? 44).map (fun i => (i.zero, i.size, i.bytes)) = some (some (.agg #[.int .i64 0, .slice none 0 0, .int .i64 0, .int .i64 0]), 4, 48) := by kernel_rfl
set_option maxRecDepth 20000 in
set_option maxHeartbeats 1000000 in
theorem clone_gkind (A : Option Addr) (n c : Nat) (cells : List Value) (w : World) (hn : n ≤ 1000) (hl : cells.length = n * 4) (h1 : ∀ u ∈ cells, u.oneCell' = true) (hS : Src w A n c cells) :
    Calls Try.prog 68 #[.slice A n c] w fun e w' => (∃ A' c', e = .returned (.slice A' n c') ∧ (A' = none → n = 0 ∧ c' = 0) ∧ w'.ownsRow w.heap.size 44 4 (.slice A' n c') n cells) ∧ Below w.heap.size w w' := by
  cases A with
  | none =>
    obtain ⟨rfl, rfl⟩ := hS.nil rfl
    have hc0 : cells = [] := List.length_eq_zero_iff.1 (by omega)
    subst hc0
    have he : (binOp .eql 37 (.slice none 0 0) (.slice none 0 0)).run Try.prog w = .ok (.bool true) w := by kernel_rfl
    go_enter Try.func68, Try.ntmps68
    go_wp2
    go_ret
    exact ⟨⟨none, 0, (by first | rfl | trivial), (by first | exact fun _ => ⟨rfl, rfl⟩ | (simp; done)), World.ownsRow_nil _ _ _ _⟩, Below.refl _ _⟩
  | some a =>
    obtain ⟨i0, hi0, hz0, hz1, hz2⟩ := info_parts gkind_cinfo
    have HI := Lib.hid (And.intro hi0 (And.intro hz0 (And.intro hz1 hz2)))
    have HS := Lib.hid (hS.at_ a rfl)
    have HC := Lib.hid hl
    have H1 := Lib.hid h1
    have HN := Lib.hid hn
    clear hi0 hz0 hz1 hz2 hS hl h1 hn
    have he : (binOp .eql 37 (.slice (some a) n c) (.slice none 0 0)).run Try.prog w = .ok (.bool false) w := by kernel_rfl
    go_enter Try.func68, Try.ntmps68
    go_wp2_with (at_builtin; refine wpList_append_any _ rfl (.tmp 5) (.tmp 6) 37 rfl (w.heap.size) 44 i0 _ 4 48 Try.underlying37 HI.out.1 HI.out.2.1 HI.out.2.2.1 HI.out.2.2.2 rfl (by omega) (.slice (some ⟨w.heap.size, 0, none⟩) 0 0) 0 [] rfl (World.ownsRow_made _ _ _ (Nat.le_refl _) (by simp [maxLen]) rfl) a n c cells rfl HC.out (fun j u hu => ((Joins.below_alloc1 w _).cell (World.block_lt_of_cell? w _ (HS.out j u hu))).trans (HS.out j u hu)) H1.out (by have := HN.out; simp only [maxLen]; omega) (by have := HN.out; omega) (by simp) ?_; intro A5 c5 w5 hown hgrow)
    have HOW : Hid (w5.ownsRow w.heap.size 44 4 (.slice A5 n c5) n cells) := Lib.hid (by simpa using hown)
    have HGR := Lib.hid hgrow
    clear hown hgrow
    go_wp2
    refine bodyPost_ret (v := .slice A5 n c5) (by first | (simp [results, Try.results68, go_sem]; done) | rfl) rfl ?_
    exact ⟨⟨A5, c5, rfl, owns_nilc HOW.out, HOW.out⟩, (Joins.below_alloc1 _ _).grown HGR.out (by simp) (fun k hk => by simp [Value.ownBlock] at hk; omega)⟩
theorem point_cinfo : (Try.prog.info? 98).map (fun i => (i.zero, i.size, i.bytes)) = some (some (.agg #[.int .i64 0, .int .i64 0]), 2, 16) := by kernel_rfl
set_option maxRecDepth 20000 in
set_option maxHeartbeats 1000000 in
theorem clone_point (A : Option Addr) (n c : Nat) (cells : List Value) (w : World) (hn : n ≤ 1000) (hl : cells.length = n * 2) (h1 : ∀ u ∈ cells, u.oneCell' = true) (hS : Src w A n c cells) :
    Calls Try.prog 69 #[.slice A n c] w fun e w' => (∃ A' c', e = .returned (.slice A' n c') ∧ (A' = none → n = 0 ∧ c' = 0) ∧ w'.ownsRow w.heap.size 98 2 (.slice A' n c') n cells) ∧ Below w.heap.size w w' := by
  cases A with
  | none =>
    obtain ⟨rfl, rfl⟩ := hS.nil rfl
    have hc0 : cells = [] := List.length_eq_zero_iff.1 (by omega)
    subst hc0
    have he : (binOp .eql 42 (.slice none 0 0) (.slice none 0 0)).run Try.prog w = .ok (.bool true) w := by kernel_rfl
    go_enter Try.func69, Try.ntmps69
    go_wp2
    go_ret
    exact ⟨⟨none, 0, (by first | rfl | trivial), (by first | exact fun _ => ⟨rfl, rfl⟩ | (simp; done)), World.ownsRow_nil _ _ _ _⟩, Below.refl _ _⟩
  | some a =>
    obtain ⟨i0, hi0, hz0, hz1, hz2⟩ := info_parts point_cinfo
    have HI := Lib.hid (And.intro hi0 (And.intro hz0 (And.intro hz1 hz2)))
    have HS := Lib.hid (hS.at_ a rfl)
    have HC := Lib.hid hl
    have H1 := Lib.hid h1
    have HN := Lib.hid hn
    clear hi0 hz0 hz1 hz2 hS hl h1 hn
    have he : (binOp .eql 42 (.slice (some a) n c) (.slice none 0 0)).run Try.prog w = .ok (.bool false) w := by kernel_rfl
    go_enter Try.func69, Try.ntmps69
    go_wp2_with (at_builtin; refine wpList_append_any _ rfl (.tmp 5) (.tmp 6) 42 rfl (w.heap.size) 98 i0 _ 2 16 Try.underlying42 HI.out.1 HI.out.2.1 HI.out.2.2.1 HI.out.2.2.2 rfl (by omega) (.slice (some ⟨w.heap.size, 0, none⟩) 0 0) 0 [] rfl (World.ownsRow_made _ _ _ (Nat.le_refl _) (by simp [maxLen]) rfl) a n c cells rfl HC.out (fun j u hu => ((Joins.below_alloc1 w _).cell (World.block_lt_of_cell? w _ (HS.out j u hu))).trans (HS.out j u hu)) H1.out (by have := HN.out; simp only [maxLen]; omega) (by have := HN.out; omega) (by simp) ?_; intro A5 c5 w5 hown hgrow)
    have HOW : Hid (w5.ownsRow w.heap.size 98 2 (.slice A5 n c5) n cells) := Lib.hid (by simpa using hown)
    have HGR := Lib.hid hgrow
    clear hown hgrow
    go_wp2
    refine bodyPost_ret (v := .slice A5 n c5) (by first | (simp [results, Try.results69, go_sem]; done) | rfl) rfl ?_
    exact ⟨⟨A5, c5, rfl, owns_nilc HOW.out, HOW.out⟩, (Joins.below_alloc1 _ _).grown HGR.out (by simp) (fun k hk => by simp [Value.ownBlock] at hk; omega)⟩
theorem gun_cinfo : (Try.prog.info? 51).map (fun i => (i.zero, i.size, i.bytes)) = some (some (.agg #[.int .i64 0, .int .i64 0, .int .i64 0, .int .i64 0, .int .i64 0, .int .i64 0, .int .i64 0, .int .i64 0]), 8, 64) := by kernel_rfl
set_option maxRecDepth 20000 in
set_option maxHeartbeats 1000000 in
theorem clone_gun (A : Option Addr) (n c : Nat) (cells : List Value) (w : World) (hn : n ≤ 1000) (hl : cells.length = n * 8) (h1 : ∀ u ∈ cells, u.oneCell' = true) (hS : Src w A n c cells) :
    Calls Try.prog 70 #[.slice A n c] w fun e w' => (∃ A' c', e = .returned (.slice A' n c') ∧ (A' = none → n = 0 ∧ c' = 0) ∧ w'.ownsRow w.heap.size 51 8 (.slice A' n c') n cells) ∧ Below w.heap.size w w' := by
  cases A with
  | none =>
    obtain ⟨rfl, rfl⟩ := hS.nil rfl
    have hc0 : cells = [] := List.length_eq_zero_iff.1 (by omega)
    subst hc0
    have he : (binOp .eql 38 (.slice none 0 0) (.slice none 0 0)).run Try.prog w = .ok (.bool true) w := by kernel_rfl
    go_enter Try.func70, Try.ntmps70
    go_wp2
    go_ret
    exact ⟨⟨none, 0, (by first | rfl | trivial), (by first | exact fun _ => ⟨rfl, rfl⟩ | (simp; done)), World.ownsRow_nil _ _ _ _⟩, Below.refl _ _⟩
  | some a =>
    obtain ⟨i0, hi0, hz0, hz1, hz2⟩ := info_parts gun_cinfo
    have HI := Lib.hid (And.intro hi0 (And.intro hz0 (And.intro hz1 hz2)))
    have HS := Lib.hid (hS.at_ a rfl)
    have HC := Lib.hid hl
    have H1 := Lib.hid h1
    have HN := Lib.hid hn
    clear hi0 hz0 hz1 hz2 hS hl h1 hn
    have he : (binOp .eql 38 (.slice (some a) n c) (.slice none 0 0)).run Try.prog w = .ok (.bool false) w := by kernel_rfl
    go_enter Try.func70, Try.ntmps70
    go_wp2_with (at_builtin; refine wpList_append_any _ rfl (.tmp 5) (.tmp 6) 38 rfl (w.heap.size) 51 i0 _ 8 64 Try.underlying38 HI.out.1 HI.out.2.1 HI.out.2.2.1 HI.out.2.2.2 rfl (by omega) (.slice (some ⟨w.heap.size, 0, none⟩) 0 0) 0 [] rfl (World.ownsRow_made _ _ _ (Nat.le_refl _) (by simp [maxLen]) rfl) a n c cells rfl HC.out (fun j u hu => ((Joins.below_alloc1 w _).cell (World.block_lt_of_cell? w _ (HS.out j u hu))).trans (HS.out j u hu)) H1.out (by have := HN.out; simp only [maxLen]; omega) (by have := HN.out; omega) (by simp) ?_; intro A5 c5 w5 hown hgrow)
    have HOW : Hid (w5.ownsRow w.heap.size 51 8 (.slice A5 n c5) n cells) := Lib.hid (by simpa using hown)
    have HGR := Lib.hid hgrow
    clear hown hgrow
    go_wp2
    refine bodyPost_ret (v := .slice A5 n c5) (by first | (simp [results, Try.results70, go_sem]; done) | rfl) rfl ?_
    exact ⟨⟨A5, c5, rfl, owns_nilc HOW.out, HOW.out⟩, (Joins.below_alloc1 _ _).grown HGR.out (by simp) (fun k hk => by simp [Value.ownBlock] at hk; omega)⟩
theorem rpack_cinfo : (Try.prog.info? 57).map (fun i => (i.zero, i.size, i.bytes)) = some (some (.agg #[.int .i64 0, .int .i64 0, .int .i64 0, .int .i64 0, .int .i64 0]), 5, 40) := by kernel_rfl
set_option maxRecDepth 20000 in
set_option maxHeartbeats 1000000 in
theorem clone_rpack (A : Option Addr) (n c : Nat) (cells : List Value) (w : World) (hn : n ≤ 1000) (hl : cells.length = n * 5) (h1 : ∀ u ∈ cells, u.oneCell' = true) (hS : Src w A n c cells) :
    Calls Try.prog 71 #[.slice A n c] w fun e w' => (∃ A' c', e = .returned (.slice A' n c') ∧ (A' = none → n = 0 ∧ c' = 0) ∧ w'.ownsRow w.heap.size 57 5 (.slice A' n c') n cells) ∧ Below w.heap.size w w' := by
  cases A with
  | none =>
    obtain ⟨rfl, rfl⟩ := hS.nil rfl
    have hc0 : cells = [] := List.length_eq_zero_iff.1 (by omega)
    subst hc0
    have he : (binOp .eql 39 (.slice none 0 0) (.slice none 0 0)).run Try.prog w = .ok (.bool true) w := by kernel_rfl
    go_enter Try.func71, Try.ntmps71
    go_wp2
    go_ret
    exact ⟨⟨none, 0, (by first | rfl | trivial), (by first | exact fun _ => ⟨rfl, rfl⟩ | (simp; done)), World.ownsRow_nil _ _ _ _⟩, Below.refl _ _⟩
  | some a =>
    obtain ⟨i0, hi0, hz0, hz1, hz2⟩ := info_parts rpack_cinfo
    have HI := Lib.hid (And.intro hi0 (And.intro hz0 (And.intro hz1 hz2)))
    have HS := Lib.hid (hS.at_ a rfl)
    have HC := Lib.hid hl
    have H1 := Lib.hid h1
    have HN := Lib.hid hn
    clear hi0 hz0 hz1 hz2 hS hl h1 hn
    have he : (binOp .eql 39 (.slice (some a) n c) (.slice none 0 0)).run Try.prog w = .ok (.bool false) w := by kernel_rfl
    go_enter Try.func71, Try.ntmps71
    go_wp2_with (at_builtin; refine wpList_append_any _ rfl (.tmp 5) (.tmp 6) 39 rfl (w.heap.size) 57 i0 _ 5 40 Try.underlying39 HI.out.1 HI.out.2.1 HI.out.2.2.1 HI.out.2.2.2 rfl (by omega) (.slice (some ⟨w.heap.size, 0, none⟩) 0 0) 0 [] rfl (World.ownsRow_made _ _ _ (Nat.le_refl _) (by simp [maxLen]) rfl) a n c cells rfl HC.out (fun j u hu => ((Joins.below_alloc1 w _).cell (World.block_lt_of_cell? w _ (HS.out j u hu))).trans (HS.out j u hu)) H1.out (by have := HN.out; simp only [maxLen]; omega) (by have := HN.out; omega) (by simp) ?_; intro A5 c5 w5 hown hgrow)
    have HOW : Hid (w5.ownsRow w.heap.size 57 5 (.slice A5 n c5) n cells) := Lib.hid (by simpa using hown)
    have HGR := Lib.hid hgrow
    clear hown hgrow
    go_wp2
    refine bodyPost_ret (v := .slice A5 n c5) (by first | (simp [results, Try.results71, go_sem]; done) | rfl) rfl ?_
    exact ⟨⟨A5, c5, rfl, owns_nilc HOW.out, HOW.out⟩, (Joins.below_alloc1 _ _).grown HGR.out (by simp) (fun k hk => by simp [Value.ownBlock] at hk; omega)⟩
end Go.Proofs.Ytljhocdbfbjpiaa
