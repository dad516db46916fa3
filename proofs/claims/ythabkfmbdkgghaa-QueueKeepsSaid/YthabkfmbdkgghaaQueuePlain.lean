/-
  The mathematics of the queues: no Go in sight.
-/
namespace Go.Proofs.Ythabkfmbdkgghaa.Que
def okG (g : Int) : Bool := decide (1 ≤ g) && decide (g ≤ 16)
def right (gs : List Int) (s : Int) : Bool := decide (gs.length ≤ 200) && (decide (0 ≤ s) && decide (s ≤ 10000)) && gs.all okG
theorem okG_iff {g : Int} : okG g = true ↔ 1 ≤ g ∧ g ≤ 16 := by unfold okG; simp
theorem right_iff {gs : List Int} {s : Int} : right gs s = true ↔ gs.length ≤ 200 ∧ 0 ≤ s ∧ s ≤ 10000 ∧ ∀ g ∈ gs, 1 ≤ g ∧ g ≤ 16 := by
  unfold right; simp only [Bool.and_eq_true, List.all_eq_true, decide_eq_true_eq, okG_iff, and_assoc]

def sum : List Int → Int
  | [] => 0
  | g :: r => g + sum r
def qlen (gs : List Int) (s : Int) : Int := s + sum gs
theorem sum_append (a b : List Int) : sum (a ++ b) = sum a + sum b := by
  induction a with
  | nil => simp [sum]
  | cons g r ih => simp [sum, ih]; omega
theorem sum_take_succ (l : List Int) (k : Nat) (h : k < l.length) : sum (l.take (k + 1)) = sum (l.take k) + l[k] := by
  rw [List.take_succ_eq_append_getElem h, sum_append]; simp [sum]
theorem sum_bd {gs : List Int} (h : ∀ g ∈ gs, 1 ≤ g ∧ g ≤ 16) : (gs.length : Int) ≤ sum gs ∧ sum gs ≤ 16 * gs.length := by
  induction gs with
  | nil => simp [sum]
  | cons g r ih =>
    have h1 := h g (by simp)
    have h2 := ih fun x hx => h x (by simp [hx])
    simp [sum]; omega

def board : List Int → Int → List Int × Int
  | [], l => ([], l)
  | g :: r, l => if g ≤ l then board r (l - g) else (g :: r, l)
/-- The queue, the singles and the number of persons after one carrier. -/
def seat (gs : List Int) (s k : Int) : List Int × Int × Int :=
  match gs with
  | g :: r => if k < g then ((g - k) :: r, s, k) else
      let b := board (g :: r) k
      (b.1, s - min b.2 s, k - b.2 + min b.2 s)
  | [] => ([], s - min k s, min k s)

theorem board_facts (gs : List Int) : ∀ (l : Int), 0 ≤ l → (∀ g ∈ gs, 1 ≤ g ∧ g ≤ 16) →
    ∃ n, n ≤ gs.length ∧ (board gs l).1 = gs.drop n ∧ 0 ≤ (board gs l).2 ∧ (board gs l).2 + sum (gs.take n) = l ∧ (n < gs.length → (board gs l).2 < (gs[n]?).getD 0) ∧ (0 < gs.length → gs[0]?.getD 0 ≤ l → 0 < n) := by
  induction gs with
  | nil => intro l hl _; exact ⟨0, by simp, by simp [board], by simpa [board] using hl, by simp [board, sum], by simp, by simp⟩
  | cons g r ih =>
    intro l hl h
    have h1 := h g (by simp)
    by_cases hg : g ≤ l
    · obtain ⟨n, e1, e2, e3, e4, e5, e6⟩ := ih (l - g) (by omega) fun x hx => h x (by simp [hx])
      refine ⟨n + 1, by simp; omega, ?_, ?_, ?_, ?_, ?_⟩
      · simp [board, hg, e2]
      · simpa [board, hg] using e3
      · simp [board, hg, sum]; omega
      · intro hn; simp at hn; simpa [board, hg] using e5 hn
      · intro _ _; omega
    · refine ⟨0, by simp, ?_, ?_, ?_, ?_, ?_⟩
      · simp [board, hg]
      · simpa [board, hg] using hl
      · simp [board, hg, sum]
      · intro _; simp [board, hg]; omega
      · intro _ h0; simp at h0; omega

structure Seated (gs : List Int) (s k : Int) (x : List Int) (t b : Int) : Prop where
  ok : ∀ g ∈ x, 1 ≤ g ∧ g ≤ 16
  len : x.length ≤ gs.length
  t0 : 0 ≤ t
  t1 : t ≤ s
  b0 : 0 ≤ b
  b1 : b ≤ k
  some_ : 0 < qlen gs s → 1 ≤ b
  sum_ : qlen x t + b = qlen gs s
  full : 0 < t → b = k
  same : ∀ i, i < x.length → x[i]?.getD 0 = gs[gs.length - x.length + i]?.getD 0 ∨ (i = 0 ∧ gs.length - x.length = 0 ∧ x[0]?.getD 0 = gs[0]?.getD 0 - k)

theorem seat_facts {gs : List Int} {s k : Int} (h : ∀ g ∈ gs, 1 ≤ g ∧ g ≤ 16) (hs : 0 ≤ s) (hk : 1 ≤ k) (hk' : k ≤ 16) :
    Seated gs s k (seat gs s k).1 (seat gs s k).2.1 (seat gs s k).2.2 := by
  cases gs with
  | nil =>
    constructor <;> simp only [seat, qlen, sum] <;> first | omega | (simp; done) | (intros; omega) | (intros; simp_all)
  | cons g r =>
    have h1 := h g (by simp)
    by_cases hg : k < g
    · have e : seat (g :: r) s k = ((g - k) :: r, s, k) := by simp [seat, hg]
      rw [e]
      constructor
      · intro x hx
        simp at hx
        rcases hx with rfl | hx
        · omega
        · exact h x (by simp [hx])
      · simp
      · exact hs
      · exact Int.le_refl _
      · show 0 ≤ k; omega
      · exact Int.le_refl _
      · intro _; exact hk
      · simp [qlen, sum]; omega
      · intro _; rfl
      · intro i hi
        cases i with
        | zero => right; simp
        | succ i => left; simp
    · have e : seat (g :: r) s k = ((board (g :: r) k).1, s - min (board (g :: r) k).2 s, k - (board (g :: r) k).2 + min (board (g :: r) k).2 s) := by simp [seat, hg]
      rw [e]
      obtain ⟨n, e1, e2, e3, e4, e5, e6⟩ := board_facts (g :: r) k (by omega) h
      have e6' := e6 (by simp) (by simp; omega)
      generalize hb : board (g :: r) k = b at *
      obtain ⟨x, l⟩ := b
      dsimp only at *
      subst e2
      have hsum : sum (g :: r) = sum ((g :: r).take n) + sum ((g :: r).drop n) := by rw [← sum_append, List.take_append_drop]
      have htk := sum_bd (gs := (g :: r).take n) fun x hx => h x (List.mem_of_mem_take hx)
      have hlt : ((g :: r).take n).length = n := by rw [List.length_take]; omega
      constructor
      · intro x hx; exact h x (List.mem_of_mem_drop hx)
      · rw [List.length_drop]; omega
      · omega
      · omega
      · omega
      · omega
      · intro _; omega
      · simp only [qlen]; omega
      · intro _; omega
      · intro i hi
        left
        rw [List.length_drop] at *
        rw [List.getElem?_drop]
        congr 2; omega

theorem Seated.right_ {gs x : List Int} {s k t b : Int} (h : Seated gs s k x t b) (hr : right gs s = true) : right x t = true := by
  rw [right_iff] at *
  have := h.len; have := h.t0; have := h.t1
  exact ⟨by omega, h.t0, by omega, h.ok⟩

/-- How many carriers, with fuel. -/
def waitF : Nat → List Int → Int → Int → Int
  | 0, _, _, _ => 0
  | f + 1, gs, s, k => if 0 < qlen gs s then 1 + waitF f (seat gs s k).1 (seat gs s k).2.1 k else 0
def wait (gs : List Int) (s k : Int) : Int := waitF (qlen gs s).toNat gs s k

theorem qlen_nonneg {gs : List Int} {s : Int} (h : ∀ g ∈ gs, 1 ≤ g ∧ g ≤ 16) (hs : 0 ≤ s) : 0 ≤ qlen gs s := by
  have := sum_bd h; unfold qlen; omega

theorem waitF_more {k : Int} (hk : 1 ≤ k) (hk' : k ≤ 16) : ∀ (f : Nat) (gs : List Int) (s : Int), (∀ g ∈ gs, 1 ≤ g ∧ g ≤ 16) → 0 ≤ s → (qlen gs s).toNat ≤ f → waitF f gs s k = wait gs s k := by
  have key : ∀ (f f' : Nat) (gs : List Int) (s : Int), (∀ g ∈ gs, 1 ≤ g ∧ g ≤ 16) → 0 ≤ s → (qlen gs s).toNat ≤ f → (qlen gs s).toNat ≤ f' → waitF f gs s k = waitF f' gs s k := by
    intro f
    induction f with
    | zero =>
      intro f' gs s h hs h0 h1
      cases f' with
      | zero => rfl
      | succ f' => simp only [waitF]; rw [if_neg (by omega)]
    | succ f ih =>
      intro f' gs s h hs h0 h1
      cases f' with
      | zero => simp only [waitF]; rw [if_neg (by omega)]
      | succ f' =>
        simp only [waitF]
        by_cases hq : 0 < qlen gs s
        · rw [if_pos hq, if_pos hq]
          have S := seat_facts h hs hk hk'
          have := S.some_ hq
          have := S.sum_
          rw [ih f' _ _ S.ok S.t0 (by omega) (by omega)]
        · rw [if_neg hq, if_neg hq]
  intro f gs s h hs hf
  exact key f _ gs s h hs hf (Nat.le_refl _)

theorem wait_zero {gs : List Int} {s k : Int} (h : ¬ 0 < qlen gs s) : wait gs s k = 0 := by
  unfold wait; rw [show (qlen gs s).toNat = 0 by omega]; rfl
theorem wait_succ {gs : List Int} {s k : Int} (hk : 1 ≤ k) (hk' : k ≤ 16) (h : ∀ g ∈ gs, 1 ≤ g ∧ g ≤ 16) (hs : 0 ≤ s) (hq : 0 < qlen gs s) :
    wait gs s k = 1 + wait (seat gs s k).1 (seat gs s k).2.1 k := by
  have S := seat_facts h hs hk hk'
  have h1 := S.some_ hq
  have h2 := S.sum_
  have h3 := qlen_nonneg S.ok S.t0
  conv => lhs; unfold wait
  obtain ⟨f, hf⟩ : ∃ f, (qlen gs s).toNat = f + 1 := ⟨(qlen gs s).toNat - 1, by omega⟩
  rw [hf]
  simp only [waitF]
  rw [if_pos hq, waitF_more hk hk' f _ _ S.ok S.t0 (by omega)]
theorem wait_facts {k : Int} (hk : 1 ≤ k) (hk' : k ≤ 16) : ∀ (f : Nat) (gs : List Int) (s : Int), (∀ g ∈ gs, 1 ≤ g ∧ g ≤ 16) → 0 ≤ s → (qlen gs s).toNat ≤ f →
    0 ≤ wait gs s k ∧ wait gs s k ≤ qlen gs s ∧ qlen gs s ≤ wait gs s k * k := by
  intro f
  induction f with
  | zero =>
    intro gs s h hs hf
    have := qlen_nonneg h hs
    rw [wait_zero (by omega)]
    omega
  | succ f ih =>
    intro gs s h hs hf
    have h0 := qlen_nonneg h hs
    by_cases hq : 0 < qlen gs s
    · have S := seat_facts h hs hk hk'
      have h1 := S.some_ hq
      have h2 := S.sum_
      have h3 := S.b1
      obtain ⟨i1, i2, i3⟩ := ih _ _ S.ok S.t0 (by omega)
      rw [wait_succ hk hk' h hs hq]
      rw [Int.add_mul]
      omega
    · rw [wait_zero hq]; omega
end Go.Proofs.Ythabkfmbdkgghaa.Que
