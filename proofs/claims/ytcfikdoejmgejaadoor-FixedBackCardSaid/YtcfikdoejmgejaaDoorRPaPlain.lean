/-
  The plain law of the reference's reading of a text.
-/
import Derived.Test.YtcfikdoejmgejaaDoorTextPlain
namespace Go.Proofs.YtcfikdoejmgejaaDoor
open Go.RowKit

def lead : List UInt8 → Nat
  | [] => 0
  | c :: r => if isDig c = true then lead r + 1 else 0
theorem lead_le : ∀ l : List UInt8, lead l ≤ l.length
  | [] => Nat.le_refl _
  | c :: r => by have := lead_le r; unfold lead; split <;> simp; omega
theorem lead_all : ∀ {l : List UInt8}, (∀ c ∈ l, isDig c = true) → lead l = l.length
  | [], _ => rfl
  | c :: r, h => by unfold lead; rw [if_pos (h c (by simp)), lead_all fun x hx => h x (by simp [hx])]; rfl
theorem lead_stop : ∀ {a r : List UInt8} {c : UInt8}, (∀ x ∈ a, isDig x = true) → isDig c = false → lead (a ++ c :: r) = a.length
  | [], r, c, _, hc => by show lead (c :: r) = 0; unfold lead; rw [if_neg (by rw [hc]; simp)]
  | b :: a, r, c, h, hc => by
    show lead (b :: (a ++ c :: r)) = _
    unfold lead; rw [if_pos (h b (by simp)), lead_stop (fun x hx => h x (by simp [hx])) hc]; rfl
theorem lead_dig : ∀ (l : List UInt8) (j : Nat), j < lead l → isDig (l.getD j 0) = true
  | [], j, h => by simp [lead] at h
  | c :: r, j, h => by
    unfold lead at h
    split at h
    · cases j with
      | zero => simpa
      | succ j => simpa using lead_dig r j (by omega)
    · omega
theorem lead_end : ∀ (l : List UInt8) (k : Nat), (∀ j, j < k → isDig (l.getD j 0) = true) → k ≤ l.length → (k < l.length → isDig (l.getD k 0) = false) → lead l = k
  | [], k, _, hk, _ => by simp at hk; subst hk; rfl
  | c :: r, 0, _, _, h => by
    have : isDig c = false := by simpa using h (by simp)
    unfold lead; rw [if_neg (by rw [this]; simp)]
  | c :: r, k + 1, h, hk, h2 => by
    have h0 : isDig c = true := by simpa using h 0 (by omega)
    unfold lead; rw [if_pos h0, lead_end r k (fun j hj => by simpa using h (j + 1) (by omega)) (by simpa using hk) (fun hj => by simpa using h2 (by simpa using hj))]
theorem lead_eq_len : ∀ {l : List UInt8}, lead l = l.length → ∀ c ∈ l, isDig c = true
  | [], _, c, hc => by cases hc
  | b :: r, h, c, hc => by
    unfold lead at h
    split at h
    · rename_i hb
      rcases List.mem_cons.1 hc with rfl | hc
      · exact hb
      · exact lead_eq_len (by simpa using h) c hc
    · simp at h
theorem dig_split : ∀ w : List UInt8, (∀ c ∈ w, isDig c = true) ∨ ∃ a c r, w = a ++ c :: r ∧ (∀ x ∈ a, isDig x = true) ∧ isDig c = false
  | [] => .inl fun c hc => by cases hc
  | b :: w => by
    cases hb : isDig b
    · exact .inr ⟨[], b, w, rfl, fun x hx => (by cases hx), hb⟩
    · rcases dig_split w with h | ⟨a, c, r, rfl, h1, h2⟩
      · exact .inl fun c hc => by
          rcases List.mem_cons.1 hc with rfl | hc
          · exact hb
          · exact h c hc
      · exact .inr ⟨b :: a, c, r, rfl, fun x hx => by
          rcases List.mem_cons.1 hx with rfl | hx
          · exact hb
          · exact h1 x hx, h2⟩
theorem cut_cons (b : UInt8) (l : List UInt8) : Lib.cut (b :: l) [46] = if b = 46 then ([], l, true) else (b :: (Lib.cut l [46]).1, (Lib.cut l [46]).2.1, (Lib.cut l [46]).2.2) := by
  have hg := Lib.index_ge l [46]
  by_cases hb : b = 46
  · subst hb
    simp [Lib.cut, Lib.index, List.isPrefixOf]
  · rw [if_neg hb]
    have hp : ([46] : List UInt8).isPrefixOf (b :: l) = false := by
      simp only [List.isPrefixOf, Bool.and_eq_false_iff]; left; rw [beq_eq_false_iff_ne]; exact fun h => hb h.symm
    unfold Lib.cut
    rw [Lib.index, hp]
    by_cases h1 : Lib.index l [46] = -1
    · simp [h1]
    · have h2 : 0 ≤ Lib.index l [46] := by omega
      have h3 : (Lib.index l [46] == -1) = false := by rw [beq_eq_false_iff_ne]; exact h1
      obtain ⟨n, hn⟩ : ∃ n : Nat, Lib.index l [46] = n := ⟨_, (Int.toNat_of_nonneg h2).symm⟩
      rw [h3, hn]
      have e : ((n : Int) + 1).toNat = n + 1 := by omega
      have e2 : (0 : Int) ≤ (n : Int) + 1 := by omega
      simp [e, e2]
theorem cut_spec : ∀ m : List UInt8, (∃ w f, m = w ++ 46 :: f ∧ (∀ c ∈ w, c ≠ 46) ∧ Lib.cut m [46] = (w, f, true)) ∨ ((∀ c ∈ m, c ≠ 46) ∧ Lib.cut m [46] = (m, [], false))
  | [] => .inr ⟨fun c hc => (by cases hc), rfl⟩
  | b :: m => by
    rw [cut_cons]
    by_cases hb : b = 46
    · rw [if_pos hb]; subst hb; exact .inl ⟨[], m, rfl, fun c hc => (by cases hc), rfl⟩
    · rw [if_neg hb]
      rcases cut_spec m with ⟨w, f, e, h, hc⟩ | ⟨h, hc⟩
      · rw [hc]
        exact .inl ⟨b :: w, f, by rw [e]; rfl, fun c hc => by
          rcases List.mem_cons.1 hc with rfl | hc
          · exact hb
          · exact h c hc, rfl⟩
      · rw [hc]
        exact .inr ⟨fun c hc => by
          rcases List.mem_cons.1 hc with rfl | hc
          · exact hb
          · exact h c hc, rfl⟩
def finE (neg : Bool) (n : Int) : Int × Int := if neg = true ∧ n = 0 then (0, 3) else (if neg = true then -n else n, 0)
def rpM (neg : Bool) (m : List UInt8) : Int × Int :=
  if lead m < 1 ∨ 10 < lead m ∨ (1 < lead m ∧ m.getD 0 0 = 48) then (0, 3)
  else if (m.drop (lead m)).length = 0 then finE neg (1000 * val (m.take (lead m)))
  else if (m.drop (lead m)).getD 0 0 ≠ 46 ∨ (m.drop (lead m)).length < 2 ∨ 4 < (m.drop (lead m)).length ∨ lead ((m.drop (lead m)).drop 1) ≠ (m.drop (lead m)).length - 1 then (0, 3)
  else finE neg (1000 * val (m.take (lead m)) + val (((m.drop (lead m)).drop 1 ++ [48, 48]).take 3))
def paM (neg : Bool) (w f : List UInt8) (pt : Bool) : Int × Int :=
  if digs w 10 = false ∨ (1 < w.length ∧ w.getD 0 0 = 48) then (0, 3)
  else if pt = true ∧ digs f 3 = false then (0, 3)
  else finE neg (val (w ++ (f ++ List.replicate (3 - f.length) 48)))
theorem parseE_eq (l : List UInt8) : parseE l = paM (negB l) (wholeL l) (fracL l) (ptB l) := rfl
theorem digs_of {w : List UInt8} {n : Nat} (h : ∀ c ∈ w, isDig c = true) : digs w n = (decide (1 ≤ w.length) && decide (w.length ≤ n)) := by
  unfold digs; rw [List.all_eq_true.2 h, Bool.true_and]
theorem digs_bad {a r : List UInt8} {c : UInt8} {n : Nat} (hc : isDig c = false) : digs (a ++ c :: r) n = false := by
  unfold digs
  have : (a ++ c :: r).all isDig = false := by simp [hc]
  rw [this]; rfl
theorem val3 (w : List UInt8) (x y z : UInt8) : val (w ++ [x, y, z]) = 1000 * val w + val [x, y, z] := by
  simp [val]; omega
theorem rpM_bad {a r : List UInt8} {c : UInt8} (neg : Bool) (ha : ∀ x ∈ a, isDig x = true) (hc : isDig c = false) (h46 : c ≠ 46) : rpM neg (a ++ c :: r) = (0, 3) := by
  unfold rpM
  rw [lead_stop ha hc, List.drop_left]
  split
  · rfl
  · rw [if_neg (by simp), if_pos (.inl (by simpa using h46))]
theorem getD_app {w r : List UInt8} (h : 1 ≤ w.length) : (w ++ r).getD 0 0 = w.getD 0 0 := by
  cases w with
  | nil => simp at h
  | cons => rfl
theorem rpM_eq (neg : Bool) (m : List UInt8) : rpM neg m = paM neg (Lib.cut m [46]).1 (Lib.cut m [46]).2.1 (Lib.cut m [46]).2.2 := by
  rcases cut_spec m with ⟨w, f, rfl, h, hc⟩ | ⟨h, hc⟩
  · rw [hc]
    show rpM neg (w ++ 46 :: f) = paM neg w f true
    rcases dig_split w with hd | ⟨a, c, r, rfl, h1, h2⟩
    · unfold rpM paM
      rw [lead_stop hd (by decide), List.drop_left, List.take_left, digs_of hd]
      by_cases g : w.length < 1 ∨ 10 < w.length ∨ (1 < w.length ∧ (w ++ 46 :: f).getD 0 0 = 48)
      · rw [if_pos g, if_pos]
        rcases g with g | g | ⟨g1, g2⟩
        · left; simp; omega
        · left; simp; omega
        · right; rw [getD_app (by omega)] at g2; exact ⟨g1, g2⟩
      · rw [if_neg g, if_neg (show ¬ ((decide (1 ≤ w.length) && decide (w.length ≤ 10)) = false ∨ (1 < w.length ∧ w.getD 0 0 = 48)) by
          intro g'
          apply g
          rcases g' with g' | ⟨g1, g2⟩
          · simp at g'; omega
          · exact .inr (.inr ⟨g1, by rw [getD_app (by omega)]; exact g2⟩)), if_neg (by simp)]
        show (if (46 : UInt8) ≠ 46 ∨ f.length + 1 < 2 ∨ 4 < f.length + 1 ∨ lead f ≠ f.length + 1 - 1 then _ else _) = _
        by_cases g2 : digs f 3 = false
        · have hl : (46 : UInt8) ≠ 46 ∨ f.length + 1 < 2 ∨ 4 < f.length + 1 ∨ lead f ≠ f.length + 1 - 1 := by
            by_cases g3 : lead f = f.length
            · rw [digs_of (lead_eq_len g3)] at g2
              simp at g2
              by_cases g4 : f.length = 0
              · exact .inr (.inl (by omega))
              · exact .inr (.inr (.inl (by omega)))
            · exact .inr (.inr (.inr g3))
          rw [if_pos hl, if_pos (show true = true ∧ digs f 3 = false from ⟨rfl, g2⟩)]
        · rw [if_neg (show ¬ (true = true ∧ digs f 3 = false) from fun h => g2 h.2)]
          have g2' : digs f 3 = true := by simpa using g2
          obtain ⟨d1, d2, d3⟩ := digs_iff.1 g2'
          have hl : ¬ ((46 : UInt8) ≠ 46 ∨ f.length + 1 < 2 ∨ 4 < f.length + 1 ∨ lead f ≠ f.length + 1 - 1) := by
            rw [lead_all d1]; simp; omega
          rw [if_neg hl]
          show finE neg (1000 * val w + val ((f ++ [48, 48]).take 3)) = _
          congr 1
          match f, d2, d3 with
          | [x], _, _ => exact (val3 w x 48 48).symm
          | [x, y], _, _ => exact (val3 w x y 48).symm
          | [x, y, z], _, _ => exact (val3 w x y z).symm
    · rw [show a ++ c :: r ++ 46 :: f = a ++ c :: (r ++ 46 :: f) by simp, rpM_bad neg h1 h2 (h c (by simp))]
      unfold paM
      rw [if_pos (.inl (digs_bad h2))]
  · rw [hc]
    show rpM neg m = paM neg m [] false
    rcases dig_split m with hd | ⟨a, c, r, rfl, h1, h2⟩
    · unfold rpM paM
      rw [lead_all hd, digs_of hd, List.drop_length, List.take_length]
      by_cases g : m.length < 1 ∨ 10 < m.length ∨ (1 < m.length ∧ m.getD 0 0 = 48)
      · rw [if_pos g, if_pos]
        rcases g with g | g | g
        · left; simp; omega
        · left; simp; omega
        · right; exact g
      · rw [if_neg g, if_neg (show ¬ ((decide (1 ≤ m.length) && decide (m.length ≤ 10)) = false ∨ (1 < m.length ∧ m.getD 0 0 = 48)) by
          intro g'
          apply g
          rcases g' with g' | g'
          · simp at g'; omega
          · exact .inr (.inr g')), if_pos (show ([] : List UInt8).length = 0 from rfl), if_neg (show ¬ (false = true ∧ digs [] 3 = false) by simp)]
        congr 1
        exact ((val3 m 48 48 48).trans (by rw [show val [48, 48, 48] = 0 by decide]; omega)).symm
    · rw [rpM_bad neg h1 h2 (h c (by simp))]
      unfold paM
      rw [if_pos (.inl (digs_bad h2))]
end Go.Proofs.YtcfikdoejmgejaaDoor
