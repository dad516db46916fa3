/-
  The walk of the number of a text.
-/
import Derived.Test.YtcfikdoejmgejaaDoorTextPlain
namespace Go.Proofs.YtcfikdoejmgejaaDoor
open Go.RowKit

theorem cutp_ex (s : ByteArray) (w : World) : Calls Tryd.prog 43 #[.string s, .string ⟨#[45]⟩] w fun e w' =>
    ∃ t : ByteArray, e = .returned (.tuple #[.string t, .bool (negB s.data.toList)]) ∧ t.data.toList = Lib.trimPrefix s.data.toList [45] ∧ w = w' :=
  (Tryd.strings_CutPrefix s ⟨#[45]⟩ w).mono fun _ _ ⟨h, h'⟩ => ⟨_, h, rfl, h'.symm⟩
theorem cut_ex (s l : ByteArray) (w : World) (hE : Env w) (hs : s.size ≤ 1000) (hl : s.data.toList = Lib.trimPrefix l.data.toList [45]) : Calls Tryd.prog 44 #[.string s, .string ⟨#[46]⟩] w fun e w' =>
    ∃ (t u : ByteArray) (n : Nat), e = .returned (.tuple #[.string t, .string u, .bool (ptB l.data.toList)]) ∧ t.data.toList = wholeL l.data.toList ∧ u.data.toList = fracL l.data.toList ∧ w' = w.drewN n := by
  obtain ⟨m, hm⟩ := hE.max
  refine (Tryd.strings_Cut s ⟨#[46]⟩ m w (by omega) hm).mono fun _ _ ⟨h, n, h'⟩ => ⟨⟨(wholeL l.data.toList).toArray⟩, ⟨(fracL l.data.toList).toArray⟩, n, ?_, rfl, rfl, h'⟩
  rw [h, hl]
  rfl

set_option maxHeartbeats 2000000 in
theorem parse_any (s : ByteArray) (w : World) (hs : s.size ≤ 100) (hE : Env w) :
    Calls Tryd.prog 25 #[.string s] w fun e w' => e = .returned (.tuple #[.int .i64 (parseE s.data.toList).1, .int .i64 (parseE s.data.toList).2]) ∧ Below w.heap.size w w' := by
  obtain ⟨l, hl⟩ : ∃ l, s.data.toList = l := ⟨_, rfl⟩
  have hll : l.length ≤ 100 := by rw [← hl]; simpa using hs
  have HLL := Lib.hid hll
  have HLE := Lib.hid hl
  obtain ⟨P, hP⟩ : ∃ P, P = parseE l := ⟨_, rfl⟩
  rw [hl, ← hP]
  have HP := Lib.hid hP
  clear hl hP hll
  have C1 := Lib.hid (cutp_ex s w)
  obtain ⟨neg, hneg⟩ : ∃ b, negB l = b := ⟨_, rfl⟩
  obtain ⟨pt, hpt⟩ : ∃ b, ptB l = b := ⟨_, rfl⟩
  obtain ⟨dw, hdw⟩ : ∃ b, digs (wholeL l) 10 = b := ⟨_, rfl⟩
  obtain ⟨df, hdf⟩ : ∃ b, digs (fracL l) 3 = b := ⟨_, rfl⟩
  have NEG := Lib.hid hneg
  have PT := Lib.hid hpt
  have DW := Lib.hid hdw
  have DF := Lib.hid hdf
  have WL := Lib.hid (whole_le l)
  have FL := Lib.hid (frac_le l)
  clear hneg hpt hdw hdf
  by_cases c1 : dw = false
  · subst c1
    go_enter Tryd.func25, Tryd.ntmps25
    go_wp2_with fail
    refine C1.out.mono ?_
    rintro e w1 ⟨t, rfl, ht, rfl⟩
    rw [HLE.out, NEG.out]
    have HT := Lib.hid ht
    have hts : t.size ≤ 1000 := by rw [StrP.size ht]; have := trim_le s.data.toList [45]; simp at this; omega
    clear ht
    go_wp2_with fail
    refine (cut_ex t s _ hE hts HT.out).mono ?_
    rw [HLE.out, PT.out]
    rintro e w1 ⟨tw, tf, n, rfl, htw, htf, rfl⟩
    have HTW := Lib.hid htw
    have HTF := Lib.hid htf
    have hw1 : tw.size ≤ 1000 := by rw [StrP.size htw]; have := WL.out; have := HLL.out; omega
    clear htw htf
    go_wp2_with fail
    refine (digits_any tw 10 _ hw1).mono ?_
    rw [HTW.out, DW.out]
    rintro e w2 ⟨rfl, hb2⟩
    go_wp2
    go_ret2
    exact ⟨by rw [HP.out]; unfold parseE; rw [if_pos (.inl DW.out)]; rfl, (Joins.below_draws _ _ _).trans (hb2.mono (by simp))⟩
  · have c1' : dw = true := by simpa using c1
    subst c1'
    clear c1
    go_enter Tryd.func25, Tryd.ntmps25
    go_wp2_with fail
    refine C1.out.mono ?_
    rintro e w1 ⟨t, rfl, ht, rfl⟩
    rw [HLE.out, NEG.out]
    have HT := Lib.hid ht
    have hts : t.size ≤ 1000 := by rw [StrP.size ht]; have := trim_le s.data.toList [45]; simp at this; omega
    clear ht
    go_wp2_with fail
    refine (cut_ex t s _ hE hts HT.out).mono ?_
    rw [HLE.out, PT.out]
    rintro e w1 ⟨tw, tf, n, rfl, htw, htf, rfl⟩
    have HTW := Lib.hid htw
    have HTF := Lib.hid htf
    have hw1 : tw.size ≤ 1000 := by rw [StrP.size htw]; have := WL.out; have := HLL.out; omega
    clear htw htf
    go_wp2_with fail
    refine (digits_any tw 10 _ hw1).mono ?_
    rw [HTW.out, DW.out]
    rintro e w2 ⟨rfl, hb2⟩
    have hb3 : Below w.heap.size w w2 := (Joins.below_draws _ _ _).trans (hb2.mono (by simp))
    have HB3 := Lib.hid hb3
    have E2 := Lib.hid (hE.below hb3)
    have hw0 : 1 ≤ tw.size := by rw [StrP.size HTW.out]; exact (digs_iff.1 DW.out).2.1
    clear hb2 hb3
    have hwt : tw.size ≤ 10 := by rw [StrP.size HTW.out]; exact (digs_iff.1 DW.out).2.2
    have hft : tf.size ≤ 100 := by rw [StrP.size HTF.out]; have := FL.out; have := HLL.out; omega
    have hgd : (wholeL l).getD 0 0 = tw[0]'(by omega) := by
      rw [← HTW.out, List.getD_eq_getElem?_getD, List.getElem?_eq_getElem (by simp; omega)]; simp; rfl
    by_cases c2 : 1 < tw.size ∧ (tw[0]'(by omega)).toNat = 48
    · obtain ⟨c2, c3⟩ := c2
      have hi : (1 : Int) < tw.size := by omega
      have hq : (((tw[0]'(by omega)).toNat : Int) == 48) = true := by rw [beq_iff_eq]; omega
      have HC := Lib.hid c3
      have HGD := Lib.hid hgd
      clear c3 hgd
      go_wp2
      go_ret2
      refine ⟨?_, HB3.out⟩
      have : 1 < (wholeL l).length ∧ (wholeL l).getD 0 0 = 48 := ⟨by rw [← StrP.size HTW.out]; exact c2, by rw [HGD.out]; exact UInt8.toNat_inj.1 HC.out⟩
      rw [HP.out]; unfold parseE; rw [if_pos (.inr this)]; rfl
    · have hnlead : ¬ (1 < (wholeL l).length ∧ (wholeL l).getD 0 0 = 48) := fun h => c2 ⟨by rw [StrP.size HTW.out]; exact h.1, by rw [← hgd, h.2]; rfl⟩
      have HNL := Lib.hid hnlead
      have HC2 := Lib.hid c2
      clear c2 hnlead hgd
      have hform : (tw.size : Int) ≤ 1 ∨ ((1 : Int) < tw.size ∧ (((tw[0]'(by omega)).toNat : Int) == 48) = false) := by
        by_cases h : 1 < tw.size
        · exact .inr ⟨by omega, by rw [beq_eq_false_iff_ne]; intro h2; exact HC2.out ⟨h, by omega⟩⟩
        · exact .inl (by omega)
      by_cases c4 : pt = true ∧ df = false
      · obtain ⟨rfl, rfl⟩ := c4
        rcases hform with hf | ⟨hf1, hf2⟩
        all_goals
          go_wp2_with fail
          refine (digits_any tf 3 _ (by omega)).mono ?_
          rw [HTF.out, DF.out]
          rintro e w3 ⟨rfl, hb3⟩
          go_wp2
          go_ret2
          refine ⟨?_, HB3.out.trans (hb3.mono HB3.out.size)⟩
          rw [HP.out]; unfold parseE; rw [if_neg (by rw [DW.out]; simp; exact fun h h' => HNL.out ⟨h, h'⟩), if_pos ⟨PT.out, DF.out⟩]; rfl
      · have hok : ptB l = true → digs (fracL l) 3 = true := fun h => by
          rw [DF.out]
          rw [PT.out] at h
          cases df
          · exact absurd ⟨h, rfl⟩ c4
          · rfl
        obtain ⟨g1, g2, g3⟩ := body_ok DW.out hok
        have HG1 := Lib.hid g1
        have HG3 := Lib.hid g3
        have HV := Lib.hid (val_take _ g1 g3)
        have HPE : Hid (P = if neg = true ∧ bodyN l = 0 then (0, 3) else (if neg = true then -bodyN l else bodyN l, 0)) := Lib.hid (by
          rw [HP.out]; unfold parseE
          rw [if_neg (by rw [DW.out]; simp; exact fun h h' => HNL.out ⟨h, h'⟩), if_neg (by rw [PT.out, DF.out]; exact c4), NEG.out])
        have hfs : tf.size ≤ 3 := by rw [StrP.size HTF.out]; exact g2
        have hcc : (3 : Int) - (tf.size : Int) = ((3 - tf.size : Nat) : Int) := by omega
        have hptdf : pt = false ∨ (pt = true ∧ df = true) := by
          cases pt
          · exact .inl rfl
          · cases df
            · exact absurd ⟨rfl, rfl⟩ c4
            · exact .inr ⟨rfl, rfl⟩
        have HFL : Hid ((fracL l).length = tf.size) := Lib.hid (StrP.size HTF.out).symm
        clear c4 g1 g3 hok
        rcases hform with hf | ⟨hf1, hf2⟩ <;> rcases hptdf with rfl | ⟨rfl, rfl⟩
        all_goals
          go_wp2_with (go_at_call 45; refine (digits_any tf 3 _ (by omega)).mono ?_; rw [HTF.out, DF.out]; rintro e w3 ⟨rfl, hb3⟩; have E2 := Lib.hid (E2.out.below hb3); have HB3 := Lib.hid (HB3.out.trans (hb3.mono HB3.out.size)); clear hb3)
          refine (rep_ex (3 - tf.size) _ (by omega)).mono ?_
          rintro e w4 ⟨t3, rfl, ht3, hb4⟩
          have HB4 := Lib.hid (HB3.out.trans (hb4.mono HB3.out.size))
          have h3s : t3.size ≤ 3 := by rw [StrP.size ht3]; simp
          obtain ⟨S, hS⟩ : ∃ S, S = tw ++ tf ++ t3 := ⟨_, rfl⟩
          have hSL : S.data.toList = wholeL l ++ (fracL l ++ List.replicate (3 - (fracL l).length) 48) := by
            rw [hS, ← HTW.out, HFL.out, ← ht3, ← HTF.out]; simp
          have hSz : S.size = tw.size + tf.size + t3.size := by rw [hS]; simp
          have hSz' : S.size ≤ 16 := by omega
          obtain ⟨wb, cap, kc, hcell, hbel, hsz⟩ := bytes_of S w4
          rw [hS] at kc
          have hSS : (tw ++ tf ++ t3).size = S.size := by rw [hS]
          have HS := Lib.hid hSL
          have HC := Lib.hid hcell
          have HB5 := Lib.hid (HB4.out.trans (hbel.mono HB4.out.size))
          have HDG : Hid (∀ j, j < S.size → isDig (S.data.toList.getD j 0) = true) := Lib.hid fun j hj => by
            have hj' : j < S.data.toList.length := by simpa using hj
            rw [List.getD_eq_getElem?_getD, List.getElem?_eq_getElem hj']
            exact HG1.out _ (by rw [← HS.out]; exact List.getElem_mem hj')
          have HVV : Hid (∀ k, 0 ≤ val (S.data.toList.take k) ∧ val (S.data.toList.take k) < 10000000000000) := Lib.hid (by rw [HS.out]; exact HV.out)
          have HVN : Hid (val S.data.toList = bodyN l) := Lib.hid (by rw [HS.out]; rfl)
          clear hb4 ht3 hS hSL hcell hbel hSz hcc
          go_wp2
          clear kc
          go_loop [8, 51] (fun n i => ∃ k : Nat, k ≤ S.size ∧ i = .int .i64 k ∧ n = .int .i64 (val (S.data.toList.take k))) (fun _ i => S.size - (intOf i).toNat)
          case atStart => exact ⟨0, Nat.zero_le _, rfl, rfl⟩
          case round =>
            obtain ⟨k, hk, rfl, rfl⟩ := hrel
            by_cases hlt : k < S.size
            · have hcell := HC.out k hlt
              obtain ⟨x1, x2⟩ := isDig_iff.1 (HDG.out k hlt)
              obtain ⟨v1, v2⟩ := HVV.out k
              have HTS := Lib.hid (take_snoc S.data.toList k (by simpa using hlt))
              have HSN := Lib.hid (val_snoc (S.data.toList.take k) (S.data.toList.getD k 0))
              generalize S.data.toList.getD k 0 = x at *
              generalize hv : val (S.data.toList.take k) = v at *
              have u1 : IntKind.u8.wrap ((x.toNat : Int) - 48) = (x.toNat : Int) - 48 := IntWalk.u8_in _ (by omega)
              clear hv
              go_wp2
              go_round
              case rel => exact ⟨k + 1, by omega, by go_num, by rw [HTS.out, HSN.out]⟩
              case measure => simp [intOf]; omega
            · have hke : k = S.size := by omega
              have HVK : Hid (val (S.data.toList.take k) = bodyN l) := Lib.hid (by rw [← HVN.out, List.take_of_length_le (by simp; omega)])
              obtain ⟨v1, v2⟩ := HVV.out k
              clear hke
              rw [HVK.out] at *
              have HPE' := Lib.hid HPE.out
              clear HVK HVN HPE
              generalize bodyN l = v at *
              have HPE := HPE'
              cases neg
              · go_wp2
                go_ret2
                exact ⟨by rw [HPE.out]; rfl, HB5.out⟩
              · by_cases hz : v = 0
                · have hz1 : (v == 0) = true := by rw [beq_iff_eq]; exact hz
                  have HZ := Lib.hid hz
                  clear hz
                  go_wp2
                  go_ret2
                  exact ⟨by rw [HPE.out, if_pos ⟨by first | trivial | rfl, HZ.out⟩]; rfl, HB5.out⟩
                · have hz1 : (v == 0) = false := by rw [beq_eq_false_iff_ne]; exact hz
                  have HZ := Lib.hid hz
                  clear hz
                  go_wp2
                  go_ret2
                  exact ⟨by rw [HPE.out, if_neg (fun h => HZ.out h.2)]; rfl, HB5.out⟩
end Go.Proofs.YtcfikdoejmgejaaDoor
