/-
  What a text's number is: no Go in sight.
-/
import Derived.Test.YtcfikdoejmgejaaDoorTextWalkC
namespace Go.Proofs.YtcfikdoejmgejaaDoor
open Go.RowKit

def val (l : List UInt8) : Int := l.foldl (fun n c => 10 * n + ((c.toNat : Int) - 48)) 0
theorem val_snoc (l : List UInt8) (c : UInt8) : val (l ++ [c]) = 10 * val l + ((c.toNat : Int) - 48) := by simp [val]
theorem isDig_iff {c : UInt8} : isDig c = true ↔ 48 ≤ c.toNat ∧ c.toNat ≤ 57 := by unfold isDig; simp
theorem val_rev (l : List UInt8) (h : ∀ c ∈ l, isDig c = true) : 0 ≤ val l.reverse ∧ val l.reverse < 10 ^ l.length := by
  induction l with
  | nil => simp [val]
  | cons c r ih =>
    have h1 := isDig_iff.1 (h c (by simp))
    obtain ⟨i1, i2⟩ := ih fun x hx => h x (by simp [hx])
    rw [List.reverse_cons, val_snoc, List.length_cons, Int.pow_succ]
    omega
theorem val_bd (l : List UInt8) (h : ∀ c ∈ l, isDig c = true) : 0 ≤ val l ∧ val l < 10 ^ l.length := by
  have := val_rev l.reverse fun c hc => h c (by simpa using hc)
  simpa using this
theorem val_take (l : List UInt8) (h : ∀ c ∈ l, isDig c = true) (hl : l.length ≤ 13) (k : Nat) : 0 ≤ val (l.take k) ∧ val (l.take k) < 10000000000000 := by
  obtain ⟨h1, h2⟩ := val_bd (l.take k) fun c hc => h c (List.mem_of_mem_take hc)
  refine ⟨h1, Int.lt_of_lt_of_le h2 ?_⟩
  have h3 : (l.take k).length ≤ 13 := by rw [List.length_take]; omega
  have h4 : (10 : Nat) ^ (l.take k).length ≤ 10 ^ 13 := Nat.pow_le_pow_right (by omega) h3
  have h5 : (10 : Nat) ^ 13 = 10000000000000 := by decide
  have h6 : ((10 : Int) ^ (l.take k).length) = ((10 ^ (l.take k).length : Nat) : Int) := by simp
  rw [h6]; omega
theorem take_snoc (l : List UInt8) (k : Nat) (h : k < l.length) : l.take (k + 1) = l.take k ++ [l.getD k 0] := by
  rw [List.take_succ_eq_append_getElem h, List.getD_eq_getElem?_getD, List.getElem?_eq_getElem h]; rfl

def wholeL (l : List UInt8) : List UInt8 := (Lib.cut (Lib.trimPrefix l [45]) [46]).1
def fracL (l : List UInt8) : List UInt8 := (Lib.cut (Lib.trimPrefix l [45]) [46]).2.1
def ptB (l : List UInt8) : Bool := (Lib.cut (Lib.trimPrefix l [45]) [46]).2.2
def negB (l : List UInt8) : Bool := Lib.hasPrefix l [45]
def bodyN (l : List UInt8) : Int := val (wholeL l ++ (fracL l ++ List.replicate (3 - (fracL l).length) 48))
def parseE (l : List UInt8) : Int × Int :=
  if digs (wholeL l) 10 = false ∨ (1 < (wholeL l).length ∧ (wholeL l).getD 0 0 = 48) then (0, 3)
  else if ptB l = true ∧ digs (fracL l) 3 = false then (0, 3)
  else if negB l = true ∧ bodyN l = 0 then (0, 3)
  else (if negB l = true then -bodyN l else bodyN l, 0)
theorem trim_le (l p : List UInt8) : (Lib.trimPrefix l p).length ≤ l.length := by
  unfold Lib.trimPrefix; split <;> simp
theorem cut_le (l p : List UInt8) : (Lib.cut l p).1.length ≤ l.length ∧ (Lib.cut l p).2.1.length ≤ l.length := by
  unfold Lib.cut; split <;> simp <;> omega
theorem whole_le (l : List UInt8) : (wholeL l).length ≤ l.length := Nat.le_trans (cut_le _ _).1 (trim_le _ _)
theorem frac_le (l : List UInt8) : (fracL l).length ≤ l.length := Nat.le_trans (cut_le _ _).2 (trim_le _ _)
theorem frac_nil {l : List UInt8} (h : ptB l = false) : fracL l = [] := by
  unfold ptB Lib.cut at h
  unfold fracL Lib.cut
  split at h
  · cases h
  · rename_i h1; rw [if_neg h1]
theorem digs_iff {l : List UInt8} {m : Nat} : digs l m = true ↔ (∀ c ∈ l, isDig c = true) ∧ 1 ≤ l.length ∧ l.length ≤ m := by
  unfold digs; simp only [Bool.and_eq_true, List.all_eq_true, decide_eq_true_eq]
/-- All the digits, where the text has the form. -/
theorem body_ok {l : List UInt8} (h1 : digs (wholeL l) 10 = true) (h2 : ptB l = true → digs (fracL l) 3 = true) :
    (∀ c ∈ wholeL l ++ (fracL l ++ List.replicate (3 - (fracL l).length) 48), isDig c = true) ∧ (fracL l).length ≤ 3 ∧ (wholeL l ++ (fracL l ++ List.replicate (3 - (fracL l).length) 48)).length ≤ 13 := by
  obtain ⟨a1, a2, a3⟩ := digs_iff.1 h1
  have hf : (∀ c ∈ fracL l, isDig c = true) ∧ (fracL l).length ≤ 3 := by
    cases hp : ptB l
    · rw [frac_nil hp]; simp
    · obtain ⟨b1, _, b3⟩ := digs_iff.1 (h2 hp); exact ⟨b1, b3⟩
  refine ⟨fun c hc => ?_, hf.2, by simp; have := hf.2; omega⟩
  simp only [List.mem_append, List.mem_replicate] at hc
  rcases hc with hc | hc | ⟨_, rfl⟩
  · exact a1 c hc
  · exact hf.1 c hc
  · decide
end Go.Proofs.YtcfikdoejmgejaaDoor
