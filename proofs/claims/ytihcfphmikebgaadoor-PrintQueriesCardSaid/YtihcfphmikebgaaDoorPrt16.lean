import Derived.Test.YtihcfphmikebgaaDoorPrt15
namespace Go.Par
open Go Go.Am Go.Proofs Go.RowKit
set_option linter.unusedVariables false
set_option linter.unusedSimpArgs false

theorem R_not_f {n : Nat} {p : Pst} (h : p.is bNot = false) : R (n + 1) (.parse .not) p = R n (.parse .test) p := by
  rw [R]; simp only [h]; rfl
theorem R_not_t {n : Nat} {p : Pst} (h : p.is bNot = true) : R (n + 1) (.parse .not) p = (exOf 12 [(R n (.parse .not) (p.down.take bNot)).1], (R n (.parse .not) (p.down.take bNot)).2.up) := by
  rw [R]; simp only [h]; rfl
theorem nest_room {p : Pst} {s : ByteArray} (hg : Good p) (hs : p.is s = true) : mz (p.down.take s) + 20 ≤ mz p := by
  have he := Pst.is_e hs
  have hlt := Pst.is_lt hs
  have hp : mz p = 20 * (p.l.length - p.at_) := by unfold mz; rw [if_pos he]
  by_cases hc : p.deep + 1 > 50
  · have hd : p.down = { p with deep := p.deep + 1, e := 4 } := by
      unfold Pst.down
      simp only [if_pos hc]
      unfold Pst.fail; rw [if_pos he]
    have hf : p.down.is s = false := by
      cases h : p.down.is s with
      | false => rfl
      | true =>
        have := Pst.is_e h
        rw [hd] at this
        simp at this
    rw [take_f hf, hd, hp]
    unfold mz
    rw [if_neg (by simp)]
    omega
  · have hd : p.down = { p with deep := p.deep + 1 } := by
      unfold Pst.down
      simp only [if_neg hc]
    have hf : p.down.is s = true := by rw [hd]; exact hs
    rw [take_t hf, hd, hp]
    unfold mz
    rw [if_pos (by exact he)]
    show 20 * (p.l.length - (p.at_ + 1)) + 20 ≤ _
    omega

theorem en_76 : enters Tryd.prog 76 = true := by kernel_rfl
theorem en_77 : enters Tryd.prog 77 = true := by kernel_rfl
theorem en_78 : enters Tryd.prog 78 = true := by kernel_rfl

theorem up_d (p : Pst) (h0 : p.deep ≤ 1000) (h1 : 1 ≤ p.deep) : Am.SpecD Tryd.prog 78 [A.c (.ref 0 0)] [(0, pbox p)] (A.tup []) [(0, pbox (p.up))] := by
  refine specD_ofN (n := 9) Tryd.func78 rfl rfl (nb rfl) ?_
  show AW _ _ (⟨[(0, A.c (.ref 0 0))], [(0, pbox p)], []⟩ : St) _
  refine AW.region ?_
  refine AL.go (OpR.plain rfl (r_move rfl (nb rfl) (by rintro _ ⟨⟩))) ?_
  first | refine AL.go (OpR.plain rfl (r_nilCheck rfl (.inl ⟨_, _, rfl⟩) (nb rfl))) ?_ | refine AL.go (OpR.plain rfl (r_nilCheck rfl (.inr ⟨_, rfl⟩) (nb rfl))) ?_
  first | refine AL.go (OpR.plain rfl (r_fieldAddr fo_52_2 (by decide) rfl (nb rfl))) ?_ | refine AL.go (OpR.plain rfl (r_fieldAddrp fo_52_2 (by decide) rfl (nb rfl))) ?_
  first | refine AL.go (OpR.plain rfl (r_load ti_3 rfl rfl rfl (nb rfl))) ?_ | refine AL.go (OpR.plain rfl (r_loadp ti_3 rfl rfl (nb rfl))) ?_
  refine AL.go (OpR.plain rfl (r_sub rfl rfl (nb rfl) (by first | omega | (simp only [dtt, dff, bqi, bqf, bni, nt1, nf1] at *; omega)) (by first | omega | (simp only [dtt, dff, bqi, bqf, bni, nt1, nf1] at *; omega)))) ?_
  first | refine AL.go (OpR.plain rfl (r_nilCheck rfl (.inl ⟨_, _, rfl⟩) (nb rfl))) ?_ | refine AL.go (OpR.plain rfl (r_nilCheck rfl (.inr ⟨_, rfl⟩) (nb rfl))) ?_
  first | refine AL.go (OpR.plain rfl (r_fieldAddr fo_52_2 (by decide) rfl (nb rfl))) ?_ | refine AL.go (OpR.plain rfl (r_fieldAddrp fo_52_2 (by decide) rfl (nb rfl))) ?_
  refine AL.go (OpR.plain rfl (r_storeN ti_3 rfl rfl rfl rfl rfl (nb rfl) (by simp only [putAt, tks, tkz, tkn, dps, dpz, cap, nap, apn, lnc, lnn, zad, Nat.reduceAdd, adz]; rfl) (by rintro _ ⟨⟩))) ?_
  refine AL.nil ?_
  refine fin_id (.inl rfl) (ends_of rfl .nil) ?_ (.cons rfl (Ob.le_of_eq (by simp [pbox, Pst.up]; omega)) .nil) rfl rfl rfl rfl
  simp only [retA]
  exact A.le_refl _

set_option maxHeartbeats 1000000 in
theorem not_s (n : Nat) (p : Pst) (hg : Good p) (hm : mz p + 5 ≤ n + 1)
    (htest : ∀ q, Good q → mz q + 4 ≤ n → Am.Spec Tryd.prog 76 [A.c (.ref 0 0)] [(0, pbox q)] (exA (R n (.parse .test) q).1) [(0, pbox (R n (.parse .test) q).2)])
    (hnot : ∀ q, Good q → mz q + 5 ≤ n → Am.Spec Tryd.prog 63 [A.c (.ref 0 0)] [(0, pbox q)] (exA (R n (.parse .not) q).1) [(0, pbox (R n (.parse .not) q).2)]) : Am.Spec Tryd.prog 63 [A.c (.ref 0 0)] [(0, pbox p)] (exA (R (n + 1) (.parse .not) p).1) [(0, pbox (R (n + 1) (.parse .not) p).2)] := by
  refine spec_ofDN (n := 17) Tryd.func63 rfl rfl (nb rfl) ?_
  show AW _ _ (⟨[(0, A.c (.ref 0 0))], [(0, pbox p)], []⟩ : St) _
  refine AW.seq ?_
  refine AW.region ?_
  refine AL.go (OpR.plain rfl (r_alloc 101 ti_27 zc_27 rfl rfl (nb rfl))) ?_
  refine AL.nil ?_
  refine thenN ?_
  refine AW.seq ?_
  refine AW.seq ?_
  refine AW.region ?_
  refine AL.go (OpR.plain rfl (r_move rfl (nb rfl) (by rintro _ ⟨⟩))) ?_
  refine AL.go (OpR.plain rfl (r_callId (is_s p hg.ok _) en_58 rfl rfl rfl rfl (.cons (A.le_refl _) (.cons (A.le_refl _) .nil)) rfl (.cons rfl .nil) rfl rfl rfl (nb rfl))) ?_
  refine AL.go (OpR.plain rfl (r_not rfl (nb rfl))) ?_
  refine AL.nil ?_
  refine thenN ?_
  refine AW.condb rfl (fun h1 => ?_) (fun h1 => ?_)
  · have h1n := h1; try simp only [dtt, dff, bqi, bqf, bni, bnf, nt1, nf1, nt0, nf0, ne_eq, ilt, ile] at h1n
    refine AW.seq ?_
    refine AW.region ?_
    refine AL.go (OpR.plain rfl (r_move rfl (nb rfl) (by rintro _ ⟨⟩))) ?_
    refine AL.go (OpR.plain rfl (r_callId (htest p hg (by omega)) en_76 rfl rfl rfl rfl (.cons (A.le_refl _) .nil) rfl (.cons rfl .nil) rfl rfl rfl (nb rfl))) ?_
    refine AL.go (OpR.plain rfl (r_storeN ti_27 rfl rfl rfl rfl rfl (nb rfl) (by simp only [putAt, tks, tkz, tkn, dps, dpz, cap, nap, apn, lnc, lnn, zad, Nat.reduceAdd, adz]; rfl) (by rintro _ ⟨⟩))) ?_
    refine AL.nil ?_
    refine thenN ?_
    refine AW.ret ?_
    refine thenR ?_
    refine .plain ?_
    refine fin_id (.inr rfl) (ends_of rfl (.cell ti_27 rfl rfl (by simp only [loaded, if_true, ler, tks, tkz, tkn, dps, dpz, cap, nap, apn, lnc, lnn, zad, Nat.reduceAdd, adz]; rfl) .nil)) ?_ (.cons rfl (Ob.le_of_eq (by first | rw [R_not_t (by assumption)] | rw [R_not_f (by assumption)])) .nil) rfl rfl rfl rfl
    simp only [retA]
    first | (rw [R_not_t (by assumption)]; exact A.le_refl _) | (rw [R_not_f (by assumption)]; exact A.le_refl _)
  · have h1n := h1; try simp only [dtt, dff, bqi, bqf, bni, bnf, nt1, nf1, nt0, nf0, ne_eq, ilt, ile] at h1n
    refine AW.skip ?_
    refine thenN ?_
    refine AW.seq ?_
    refine AW.region ?_
    have hs : p.is bNot = true := by simp_all
    have hD := down_good hg (Pst.is_e hs)
    have hT := keeps_take hD.1 bNot
    have hN := nest_room hg hs
    have hK := (R_keeps n (.parse .not) (p.down.take bNot) hT.good).1
    have hQ : (R n (.parse .not) (p.down.take bNot)).2.deep ≤ 1000 ∧ 1 ≤ (R n (.parse .not) (p.down.take bNot)).2.deep := ⟨hK.good.ok.deep, by rw [hK.deep, hT.deep, hD.2.2.2]; omega⟩
    refine AL.go (OpR.plain rfl (r_move rfl (nb rfl) (by rintro _ ⟨⟩))) ?_
    refine AL.go (OpR.plain rfl (r_callId (down_s p hg.ok.deep) en_77 rfl rfl rfl rfl (.cons (A.le_refl _) .nil) rfl (.cons rfl .nil) rfl rfl rfl (nb rfl))) ?_
    refine AL.nil ?_
    refine thenN ?_
    refine AW.seq ?_
    refine AW.region ?_
    refine AL.go (OpR.plain rfl (r_move rfl (nb rfl) (by rintro _ ⟨⟩))) ?_
    refine AL.defer (cs := [.ref 0 0]) rfl rfl rfl ?_
    refine AL.nil ?_
    refine thenN ?_
    refine AW.seq ?_
    refine AW.region ?_
    refine AL.go (OpR.plain rfl (r_move rfl (nb rfl) (by rintro _ ⟨⟩))) ?_
    refine AL.go (OpR.plain rfl (r_callId (take_s p.down hD.1.ok bNot) en_42 rfl rfl rfl rfl (.cons (A.le_refl _) (.cons (A.le_refl _) .nil)) rfl (.cons rfl .nil) rfl rfl rfl (nb rfl))) ?_
    refine AL.nil ?_
    refine thenN ?_
    refine AW.seq ?_
    refine AW.region ?_
    refine AL.go (OpR.plain rfl (r_move rfl (nb rfl) (by rintro _ ⟨⟩))) ?_
    refine AL.go (OpR.plain rfl (r_callId (hnot (p.down.take bNot) hT.good (by omega)) en_63 rfl rfl rfl rfl (.cons (A.le_refl _) .nil) rfl (.cons rfl .nil) rfl rfl rfl (nb rfl))) ?_
    refine AL.go (OpR.plain rfl (r_buildSlice un_25 ti_27 rfl rfl rfl rfl rfl (by decide) (by decide) rfl (nb rfl))) ?_
    refine AL.go (OpR.plain rfl (r_callFun (of_s _ [(R n (.parse .not) (p.down.take bNot)).1] (by simp)) en_55 rfl rfl rfl rfl (.cons (A.le_refl _) (.cons (A.le_of_eq (by simp [Ex.rows, Ex.row_eq])) .nil)) rfl (nb rfl))) ?_
    refine AL.go (OpR.plain rfl (r_storeN ti_27 rfl rfl rfl rfl rfl (nb rfl) (by simp only [putAt, tks, tkz, tkn, dps, dpz, cap, nap, apn, lnc, lnn, zad, Nat.reduceAdd, adz]; rfl) (by rintro _ ⟨⟩))) ?_
    refine AL.nil ?_
    refine thenN ?_
    refine AW.ret ?_
    refine .one (.inr rfl) (f := 78) (cs := [.ref 0 0]) (lm := [(0, pbox (R n (.parse .not) (p.down.take bNot)).2)]) (lm' := [(0, pbox (R n (.parse .not) (p.down.take bNot)).2.up)]) (r := .tup []) rfl (up_d _ hQ.1 hQ.2) en_78 rfl (.cons rfl .nil) rfl rfl rfl ?_
    refine fin_id (.inr rfl) (ends_of rfl (.cell ti_27 rfl rfl (by simp only [loaded, if_true, ler, tks, tkz, tkn, dps, dpz, cap, nap, apn, lnc, lnn, zad, Nat.reduceAdd, adz]; rfl) .nil)) ?_ (.cons rfl (Ob.le_of_eq (by first | rw [R_not_t (by assumption)] | rw [R_not_f (by assumption)])) .nil) rfl rfl rfl rfl
    simp only [retA]
    first | (rw [R_not_t (by assumption)]; exact A.le_refl _) | (rw [R_not_f (by assumption)]; exact A.le_refl _)

end Go.Par
