import Derived.Test.YtihcfphmikebgaaDoorPrt16
namespace Go.Par
open Go Go.Am Go.Proofs Go.RowKit
set_option linter.unusedVariables false
set_option linter.unusedSimpArgs false

theorem tok_text {p : Pst} (h : p.Ok) (hk : p.tok.kind = 4) : p.tok.text.size ≤ 65536 := by
  unfold Pst.tok at hk ⊢
  by_cases hc : p.e = 0 ∧ p.at_ < p.l.length
  · rw [if_pos hc] at hk ⊢
    refine h.text _ ?_ hk
    rw [List.getD_eq_getElem?_getD, List.getElem?_eq_getElem hc.2]
    simp
  · rw [if_neg hc] at hk; simp [Tok.zero] at hk
theorem R_atom_int {n : Nat} {p : Pst} (h : p.tok.kind = 3) : R (n + 1) (.parse .atom) p = (exVal ⟨1, p.tok.num, bs0⟩, p.step) := by rw [R, if_pos h]
theorem R_atom_text {n : Nat} {p : Pst} (h : p.tok.kind = 4) : R (n + 1) (.parse .atom) p = (exVal ⟨2, 0, p.tok.text⟩, p.step) := by
  rw [R, if_neg (by rw [h]; decide), if_pos h]
theorem R_atom_null {n : Nat} {p : Pst} (h3 : ¬ p.tok.kind = 3) (h4 : ¬ p.tok.kind = 4) (h : p.is bNull = true) : R (n + 1) (.parse .atom) p = (exVal Val.null, p.step) := by
  rw [R, if_neg h3, if_neg h4, if_pos h]
theorem R_atom_nest {n : Nat} {p : Pst} (h3 : ¬ p.tok.kind = 3) (h4 : ¬ p.tok.kind = 4) (hn : p.is bNull = false) (h : p.is bOpen = true) :
    R (n + 1) (.parse .atom) p = ((R n (.parse .or) (p.down.take bOpen)).1, ((R n (.parse .or) (p.down.take bOpen)).2.must bClose).up) := by
  rw [R, if_neg h3, if_neg h4, if_neg (by rw [hn]; decide), if_pos h]
theorem R_atom_col {n : Nat} {p : Pst} (h3 : ¬ p.tok.kind = 3) (h4 : ¬ p.tok.kind = 4) (hn : p.is bNull = false) (h : p.is bOpen = false) : R (n + 1) (.parse .atom) p = p.col := by
  rw [R, if_neg h3, if_neg h4, if_neg (by rw [hn]; decide), if_neg (by rw [h]; decide)]

theorem en_100 : enters Tryd.prog 100 = true := by kernel_rfl
theorem en_101 : enters Tryd.prog 101 = true := by kernel_rfl
theorem en_102 : enters Tryd.prog 102 = true := by kernel_rfl
theorem en_103 : enters Tryd.prog 103 = true := by kernel_rfl
theorem en_23 : enters Tryd.prog 23 = true := by kernel_rfl
theorem en_43 : enters Tryd.prog 43 = true := by kernel_rfl
theorem fo_71_2 : fieldOf Tryd.prog 71 2 = some (2, 1, false) := by kernel_rfl

set_option maxHeartbeats 2000000 in
theorem atom_s (n : Nat) (p : Pst) (hg : Good p) (hm : mz p + 1 ≤ n + 1)
    (hor : ∀ q, Good q → mz q + 7 ≤ n → Am.Spec Tryd.prog 23 [A.c (.ref 0 0)] [(0, pbox q)] (exA (R n (.parse .or) q).1) [(0, pbox (R n (.parse .or) q).2)]) : Am.Spec Tryd.prog 99 [A.c (.ref 0 0)] [(0, pbox p)] (exA (R (n + 1) (.parse .atom) p).1) [(0, pbox (R (n + 1) (.parse .atom) p).2)] := by
  refine spec_ofDN (n := 57) Tryd.func99 rfl rfl (nb rfl) ?_
  show AW _ _ (⟨[(0, A.c (.ref 0 0))], [(0, pbox p)], []⟩ : St) _
  refine AW.seq ?_
  refine AW.region ?_
  refine AL.go (OpR.plain rfl (r_alloc 101 ti_27 zc_27 rfl rfl (nb rfl))) ?_
  refine AL.nil ?_
  refine thenN ?_
  refine AW.seq ?_
  refine AW.region ?_
  refine AL.go (OpR.plain rfl (r_move rfl (nb rfl) (by rintro _ ⟨⟩))) ?_
  refine AL.go (OpR.plain rfl (r_callId (tok_s p hg.ok) en_48 rfl rfl rfl rfl (.cons (A.le_refl _) .nil) rfl (.cons rfl .nil) rfl rfl rfl (nb rfl))) ?_
  refine AL.go (OpR.plain rfl (r_alloc 102 ti_71 zc_71 rfl rfl (nb rfl))) ?_
  refine AL.go (OpR.plain rfl (r_storeN ti_71 rfl rfl rfl rfl rfl (nb rfl) (by simp only [putAt, tks, tkz, tkn, dps, dpz, cap, nap, apn, lnc, lnn, zad, Nat.reduceAdd, adz]; rfl) (by rintro _ ⟨⟩))) ?_
  refine AL.nil ?_
  refine thenN ?_
  refine AW.seq ?_
  refine AW.block ?_
  refine AW.seq ?_
  refine AW.region ?_
  first | refine AL.go (OpR.plain rfl (r_fieldAddr fo_71_0 (by decide) rfl (nb rfl))) ?_ | refine AL.go (OpR.plain rfl (r_fieldAddrp fo_71_0 (by decide) rfl (nb rfl))) ?_
  first | refine AL.go (OpR.plain rfl (r_load ti_3 rfl rfl rfl (nb rfl))) ?_ | refine AL.go (OpR.plain rfl (r_loadp ti_3 rfl rfl (nb rfl))) ?_
  refine AL.go (OpR.plain rfl (r_bin rfl rfl (nb rfl) rfl (run_int_eql _ _ _))) ?_
  refine AL.go (OpR.plain rfl (r_assign rfl (nb rfl) (by rintro _ ⟨⟩))) ?_
  refine AL.nil ?_
  refine thenN ?_
  refine AW.condb rfl (fun h1 => ?_) (fun h1 => ?_)
  · have h1n := h1; try simp only [dtt, dff, bqi, bqf, bni, bnf, nt1, nf1, nt0, nf0, ne_eq, ilt, ile] at h1n
    refine AW.seq ?_
    refine AW.region ?_
    refine AL.go (OpR.plain rfl (r_move rfl (nb rfl) (by rintro _ ⟨⟩))) ?_
    first | refine AL.go (OpR.plain rfl (r_nilCheck rfl (.inl ⟨_, _, rfl⟩) (nb rfl))) ?_ | refine AL.go (OpR.plain rfl (r_nilCheck rfl (.inr ⟨_, rfl⟩) (nb rfl))) ?_
    first | refine AL.go (OpR.plain rfl (r_fieldAddr fo_52_1 (by decide) rfl (nb rfl))) ?_ | refine AL.go (OpR.plain rfl (r_fieldAddrp fo_52_1 (by decide) rfl (nb rfl))) ?_
    first | refine AL.go (OpR.plain rfl (r_load ti_3 rfl rfl rfl (nb rfl))) ?_ | refine AL.go (OpR.plain rfl (r_loadp ti_3 rfl rfl (nb rfl))) ?_
    refine AL.go (OpR.plain rfl (r_add rfl rfl (nb rfl) (by (have := hg.ok.at_; have := hg.ok.len; omega)) (by (have := hg.ok.at_; have := hg.ok.len; omega)))) ?_
    first | refine AL.go (OpR.plain rfl (r_nilCheck rfl (.inl ⟨_, _, rfl⟩) (nb rfl))) ?_ | refine AL.go (OpR.plain rfl (r_nilCheck rfl (.inr ⟨_, rfl⟩) (nb rfl))) ?_
    first | refine AL.go (OpR.plain rfl (r_fieldAddr fo_52_1 (by decide) rfl (nb rfl))) ?_ | refine AL.go (OpR.plain rfl (r_fieldAddrp fo_52_1 (by decide) rfl (nb rfl))) ?_
    refine AL.go (OpR.plain rfl (r_storeN ti_3 rfl rfl rfl rfl rfl (nb rfl) (by simp only [putAt, tks, tkz, tkn, dps, dpz, cap, nap, apn, lnc, lnn, zad, Nat.reduceAdd, adz]; rfl) (by rintro _ ⟨⟩))) ?_
    refine AL.nil ?_
    refine thenN ?_
    refine AW.seq ?_
    refine AW.region ?_
    first | refine AL.go (OpR.plain rfl (r_fieldAddr fo_71_2 (by decide) rfl (nb rfl))) ?_ | refine AL.go (OpR.plain rfl (r_fieldAddrp fo_71_2 (by decide) rfl (nb rfl))) ?_
    first | refine AL.go (OpR.plain rfl (r_load ti_3 rfl rfl rfl (nb rfl))) ?_ | refine AL.go (OpR.plain rfl (r_loadp ti_3 rfl rfl (nb rfl))) ?_
    refine AL.go (OpR.plain rfl (r_callFun (int_s p.tok.num) en_101 rfl rfl rfl rfl (.cons (A.le_refl _) .nil) rfl (nb rfl))) ?_
    refine AL.go (OpR.plain rfl (r_callFun (val_s ⟨1, p.tok.num, bs0⟩) en_100 rfl rfl rfl rfl (.cons (A.le_refl _) .nil) rfl (nb rfl))) ?_
    refine AL.go (OpR.plain rfl (r_storeN ti_27 rfl rfl rfl rfl rfl (nb rfl) (by simp only [putAt, tks, tkz, tkn, dps, dpz, cap, nap, apn, lnc, lnn, zad, Nat.reduceAdd, adz]; rfl) (by rintro _ ⟨⟩))) ?_
    refine AL.nil ?_
    refine thenN ?_
    refine AW.ret ?_
    refine inbR ?_
    refine thenR ?_
    refine .plain ?_
    refine fin_id (.inr rfl) (ends_of rfl (.cell ti_27 rfl rfl (by simp only [loaded, if_true, ler, tks, tkz, tkn, dps, dpz, cap, nap, apn, lnc, lnn, zad, Nat.reduceAdd, adz]; rfl) .nil)) ?_ (.cons rfl (Ob.le_of_eq (by first | (rw [R_atom_int (by assumption)]; simp [Pst.step]; done) | (rw [R_atom_text (by assumption)]; simp [Pst.step]; done) | (rw [R_atom_null (by assumption) (by assumption) (by assumption)]; exact congrArg pbox (take_t (by assumption))) | rw [R_atom_nest (by assumption) (by assumption) (by assumption) (by assumption)] | rw [R_atom_col (by assumption) (by assumption) (by assumption) (by assumption)])) .nil) rfl rfl rfl rfl
    simp only [retA]
    first | (rw [R_atom_int (by assumption)]; exact A.le_refl _) | (rw [R_atom_text (by assumption)]; exact A.le_refl _) | (rw [R_atom_null (by assumption) (by assumption) (by assumption)]; exact A.le_refl _) | (rw [R_atom_nest (by assumption) (by assumption) (by assumption) (by assumption)]; exact A.le_refl _) | (rw [R_atom_col (by assumption) (by assumption) (by assumption) (by assumption)]; exact A.le_refl _)
  · have h1n := h1; try simp only [dtt, dff, bqi, bqf, bni, bnf, nt1, nf1, nt0, nf0, ne_eq, ilt, ile] at h1n
    refine AW.seq ?_
    refine AW.region ?_
    first | refine AL.go (OpR.plain rfl (r_fieldAddr fo_71_0 (by decide) rfl (nb rfl))) ?_ | refine AL.go (OpR.plain rfl (r_fieldAddrp fo_71_0 (by decide) rfl (nb rfl))) ?_
    first | refine AL.go (OpR.plain rfl (r_load ti_3 rfl rfl rfl (nb rfl))) ?_ | refine AL.go (OpR.plain rfl (r_loadp ti_3 rfl rfl (nb rfl))) ?_
    refine AL.go (OpR.plain rfl (r_bin rfl rfl (nb rfl) rfl (run_int_eql _ _ _))) ?_
    refine AL.go (OpR.plain rfl (r_assign rfl (nb rfl) (by rintro _ ⟨⟩))) ?_
    refine AL.nil ?_
    refine thenN ?_
    refine AW.condb rfl (fun h2 => ?_) (fun h2 => ?_)
    · have h2n := h2; try simp only [dtt, dff, bqi, bqf, bni, bnf, nt1, nf1, nt0, nf0, ne_eq, ilt, ile] at h2n
      refine AW.seq ?_
      refine AW.region ?_
      refine AL.go (OpR.plain rfl (r_move rfl (nb rfl) (by rintro _ ⟨⟩))) ?_
      first | refine AL.go (OpR.plain rfl (r_nilCheck rfl (.inl ⟨_, _, rfl⟩) (nb rfl))) ?_ | refine AL.go (OpR.plain rfl (r_nilCheck rfl (.inr ⟨_, rfl⟩) (nb rfl))) ?_
      first | refine AL.go (OpR.plain rfl (r_fieldAddr fo_52_1 (by decide) rfl (nb rfl))) ?_ | refine AL.go (OpR.plain rfl (r_fieldAddrp fo_52_1 (by decide) rfl (nb rfl))) ?_
      first | refine AL.go (OpR.plain rfl (r_load ti_3 rfl rfl rfl (nb rfl))) ?_ | refine AL.go (OpR.plain rfl (r_loadp ti_3 rfl rfl (nb rfl))) ?_
      refine AL.go (OpR.plain rfl (r_add rfl rfl (nb rfl) (by (have := hg.ok.at_; have := hg.ok.len; omega)) (by (have := hg.ok.at_; have := hg.ok.len; omega)))) ?_
      first | refine AL.go (OpR.plain rfl (r_nilCheck rfl (.inl ⟨_, _, rfl⟩) (nb rfl))) ?_ | refine AL.go (OpR.plain rfl (r_nilCheck rfl (.inr ⟨_, rfl⟩) (nb rfl))) ?_
      first | refine AL.go (OpR.plain rfl (r_fieldAddr fo_52_1 (by decide) rfl (nb rfl))) ?_ | refine AL.go (OpR.plain rfl (r_fieldAddrp fo_52_1 (by decide) rfl (nb rfl))) ?_
      refine AL.go (OpR.plain rfl (r_storeN ti_3 rfl rfl rfl rfl rfl (nb rfl) (by simp only [putAt, tks, tkz, tkn, dps, dpz, cap, nap, apn, lnc, lnn, zad, Nat.reduceAdd, adz]; rfl) (by rintro _ ⟨⟩))) ?_
      refine AL.nil ?_
      refine thenN ?_
      refine AW.seq ?_
      refine AW.region ?_
      first | refine AL.go (OpR.plain rfl (r_fieldAddr fo_71_1 (by decide) rfl (nb rfl))) ?_ | refine AL.go (OpR.plain rfl (r_fieldAddrp fo_71_1 (by decide) rfl (nb rfl))) ?_
      first | refine AL.go (OpR.plain rfl (r_load ti_9 rfl rfl rfl (nb rfl))) ?_ | refine AL.go (OpR.plain rfl (r_loadp ti_9 rfl rfl (nb rfl))) ?_
      refine AL.go (OpR.plain rfl (r_callFun (text_s p.tok.text (tok_text hg.ok (by assumption))) en_102 rfl rfl rfl rfl (.cons (A.le_refl _) .nil) rfl (nb rfl))) ?_
      refine AL.go (OpR.plain rfl (r_callFun (val_s ⟨2, 0, p.tok.text⟩) en_100 rfl rfl rfl rfl (.cons (A.le_refl _) .nil) rfl (nb rfl))) ?_
      refine AL.go (OpR.plain rfl (r_storeN ti_27 rfl rfl rfl rfl rfl (nb rfl) (by simp only [putAt, tks, tkz, tkn, dps, dpz, cap, nap, apn, lnc, lnn, zad, Nat.reduceAdd, adz]; rfl) (by rintro _ ⟨⟩))) ?_
      refine AL.nil ?_
      refine thenN ?_
      refine AW.ret ?_
      refine inbR ?_
      refine thenR ?_
      refine .plain ?_
      refine fin_id (.inr rfl) (ends_of rfl (.cell ti_27 rfl rfl (by simp only [loaded, if_true, ler, tks, tkz, tkn, dps, dpz, cap, nap, apn, lnc, lnn, zad, Nat.reduceAdd, adz]; rfl) .nil)) ?_ (.cons rfl (Ob.le_of_eq (by first | (rw [R_atom_int (by assumption)]; simp [Pst.step]; done) | (rw [R_atom_text (by assumption)]; simp [Pst.step]; done) | (rw [R_atom_null (by assumption) (by assumption) (by assumption)]; exact congrArg pbox (take_t (by assumption))) | rw [R_atom_nest (by assumption) (by assumption) (by assumption) (by assumption)] | rw [R_atom_col (by assumption) (by assumption) (by assumption) (by assumption)])) .nil) rfl rfl rfl rfl
      simp only [retA]
      first | (rw [R_atom_int (by assumption)]; exact A.le_refl _) | (rw [R_atom_text (by assumption)]; exact A.le_refl _) | (rw [R_atom_null (by assumption) (by assumption) (by assumption)]; exact A.le_refl _) | (rw [R_atom_nest (by assumption) (by assumption) (by assumption) (by assumption)]; exact A.le_refl _) | (rw [R_atom_col (by assumption) (by assumption) (by assumption) (by assumption)]; exact A.le_refl _)
    · have h2n := h2; try simp only [dtt, dff, bqi, bqf, bni, bnf, nt1, nf1, nt0, nf0, ne_eq, ilt, ile] at h2n
      refine AW.seq ?_
      refine AW.region ?_
      refine AL.go (OpR.plain rfl (r_move rfl (nb rfl) (by rintro _ ⟨⟩))) ?_
      refine AL.go (OpR.plain rfl (r_callId (take_s p hg.ok bNull) en_42 rfl rfl rfl rfl (.cons (A.le_refl _) (.cons (A.le_refl _) .nil)) rfl (.cons rfl .nil) rfl rfl rfl (nb rfl))) ?_
      refine AL.go (OpR.plain rfl (r_assign rfl (nb rfl) (by rintro _ ⟨⟩))) ?_
      refine AL.nil ?_
      refine thenN ?_
      refine AW.condb rfl (fun h3 => ?_) (fun h3 => ?_)
      · have h3n := h3; try simp only [dtt, dff, bqi, bqf, bni, bnf, nt1, nf1, nt0, nf0, ne_eq, ilt, ile] at h3n
        refine AW.seq ?_
        refine AW.region ?_
        refine AL.go (OpR.plain rfl (r_callFun (null_s) en_103 rfl rfl rfl rfl .nil rfl (nb rfl))) ?_
        refine AL.go (OpR.plain rfl (r_callFun (val_s Val.null) en_100 rfl rfl rfl rfl (.cons (A.le_refl _) .nil) rfl (nb rfl))) ?_
        refine AL.go (OpR.plain rfl (r_storeN ti_27 rfl rfl rfl rfl rfl (nb rfl) (by simp only [putAt, tks, tkz, tkn, dps, dpz, cap, nap, apn, lnc, lnn, zad, Nat.reduceAdd, adz]; rfl) (by rintro _ ⟨⟩))) ?_
        refine AL.nil ?_
        refine thenN ?_
        refine AW.ret ?_
        refine inbR ?_
        refine thenR ?_
        refine .plain ?_
        refine fin_id (.inr rfl) (ends_of rfl (.cell ti_27 rfl rfl (by simp only [loaded, if_true, ler, tks, tkz, tkn, dps, dpz, cap, nap, apn, lnc, lnn, zad, Nat.reduceAdd, adz]; rfl) .nil)) ?_ (.cons rfl (Ob.le_of_eq (by first | (rw [R_atom_int (by assumption)]; simp [Pst.step]; done) | (rw [R_atom_text (by assumption)]; simp [Pst.step]; done) | (rw [R_atom_null (by assumption) (by assumption) (by assumption)]; exact congrArg pbox (take_t (by assumption))) | rw [R_atom_nest (by assumption) (by assumption) (by assumption) (by assumption)] | rw [R_atom_col (by assumption) (by assumption) (by assumption) (by assumption)])) .nil) rfl rfl rfl rfl
        simp only [retA]
        first | (rw [R_atom_int (by assumption)]; exact A.le_refl _) | (rw [R_atom_text (by assumption)]; exact A.le_refl _) | (rw [R_atom_null (by assumption) (by assumption) (by assumption)]; exact A.le_refl _) | (rw [R_atom_nest (by assumption) (by assumption) (by assumption) (by assumption)]; exact A.le_refl _) | (rw [R_atom_col (by assumption) (by assumption) (by assumption) (by assumption)]; exact A.le_refl _)
      · have h3n := h3; try simp only [dtt, dff, bqi, bqf, bni, bnf, nt1, nf1, nt0, nf0, ne_eq, ilt, ile] at h3n
        refine AW.seq ?_
        refine AW.region ?_
        have hnn : p.is bNull = false := by simp_all
        refine AL.go (OpR.plain rfl (r_move rfl (nb rfl) (by rintro _ ⟨⟩))) ?_
        refine AL.go (OpR.plain rfl (r_callId (is_s p hg.ok bOpen) en_58 rfl rfl rfl rfl (.cons (A.le_refl _) (.cons (A.le_refl _) .nil)) rfl (.cons (Eq.trans (b := some (pbox (p.take bNull))) rfl (by rw [take_f hnn])) .nil) rfl rfl rfl (nb rfl))) ?_
        refine AL.go (OpR.plain rfl (r_assign rfl (nb rfl) (by rintro _ ⟨⟩))) ?_
        refine AL.nil ?_
        refine thenN ?_
        refine AW.condb rfl (fun h4 => ?_) (fun h4 => ?_)
        · have h4n := h4; try simp only [dtt, dff, bqi, bqf, bni, bnf, nt1, nf1, nt0, nf0, ne_eq, ilt, ile] at h4n
          refine AW.seq ?_
          refine AW.region ?_
          have hs : p.is bOpen = true := by simp_all
          have hD := down_good hg (Pst.is_e hs)
          have hT := keeps_take hD.1 bOpen
          have hN := nest_room hg hs
          have hK := (R_keeps n (.parse .or) (p.down.take bOpen) hT.good).1
          have hM := (keeps_must hK.good bClose).1
          have hQ : ((R n (.parse .or) (p.down.take bOpen)).2.must bClose).deep ≤ 1000 ∧ 1 ≤ ((R n (.parse .or) (p.down.take bOpen)).2.must bClose).deep := ⟨hM.good.ok.deep, by rw [hM.deep, hK.deep, hT.deep, hD.2.2.2]; omega⟩
          refine AL.go (OpR.plain rfl (r_move rfl (nb rfl) (by rintro _ ⟨⟩))) ?_
          refine AL.go (OpR.plain rfl (r_callId (down_s p hg.ok.deep) en_77 rfl rfl rfl rfl (.cons (A.le_refl _) .nil) rfl (.cons rfl .nil) rfl rfl rfl (nb rfl))) ?_
          refine AL.nil ?_
          refine thenN ?_
          refine AW.seq ?_
          refine AW.region ?_
          refine AL.go (OpR.plain rfl (r_move rfl (nb rfl) (by rintro _ ⟨⟩))) ?_
          refine AL.defer (cs := [.ref 0 0]) rfl rfl rfl ?_
          refine AL.nil ?_
          refine thenN ?_
          refine AW.seq ?_
          refine AW.region ?_
          refine AL.go (OpR.plain rfl (r_move rfl (nb rfl) (by rintro _ ⟨⟩))) ?_
          refine AL.go (OpR.plain rfl (r_callId (take_s p.down hD.1.ok bOpen) en_42 rfl rfl rfl rfl (.cons (A.le_refl _) (.cons (A.le_refl _) .nil)) rfl (.cons rfl .nil) rfl rfl rfl (nb rfl))) ?_
          refine AL.nil ?_
          refine thenN ?_
          refine AW.seq ?_
          refine AW.region ?_
          refine AL.go (OpR.plain rfl (r_move rfl (nb rfl) (by rintro _ ⟨⟩))) ?_
          refine AL.go (OpR.plain rfl (r_callId (hor (p.down.take bOpen) hT.good (by omega)) en_23 rfl rfl rfl rfl (.cons (A.le_refl _) .nil) rfl (.cons rfl .nil) rfl rfl rfl (nb rfl))) ?_
          refine AL.go (OpR.plain rfl (r_alloc 103 ti_27 zc_27 rfl rfl (nb rfl))) ?_
          refine AL.go (OpR.plain rfl (r_storeN ti_27 rfl rfl rfl rfl rfl (nb rfl) (by simp only [putAt, tks, tkz, tkn, dps, dpz, cap, nap, apn, lnc, lnn, zad, Nat.reduceAdd, adz]; rfl) (by rintro _ ⟨⟩))) ?_
          refine AL.nil ?_
          refine thenN ?_
          refine AW.seq ?_
          refine AW.region ?_
          refine AL.go (OpR.plain rfl (r_move rfl (nb rfl) (by rintro _ ⟨⟩))) ?_
          refine AL.go (OpR.plain rfl (r_callId (must_s (R n (.parse .or) (p.down.take bOpen)).2 hK.good.ok bClose) en_38 rfl rfl rfl rfl (.cons (A.le_refl _) (.cons (A.le_refl _) .nil)) rfl (.cons rfl .nil) rfl rfl rfl (nb rfl))) ?_
          refine AL.nil ?_
          refine thenN ?_
          refine AW.seq ?_
          refine AW.region ?_
          first | refine AL.go (OpR.plain rfl (r_load ti_27 rfl rfl (by simp only [loaded, mpc, mpn, if_true, ler, tks, tkz, tkn, dps, dpz, cap, nap, apn, lnc, lnn, zad, Nat.reduceAdd, adz]; rfl) (nb rfl))) ?_ | refine AL.go (OpR.plain rfl (r_loadp ti_27 rfl (by simp only [loaded, mpc, mpn, if_true, ler, tks, tkz, tkn, dps, dpz, cap, nap, apn, lnc, lnn, zad, Nat.reduceAdd, adz]; rfl) (nb rfl))) ?_
          refine AL.go (OpR.plain rfl (r_storeN ti_27 rfl rfl rfl rfl rfl (nb rfl) (by simp only [putAt, tks, tkz, tkn, dps, dpz, cap, nap, apn, lnc, lnn, zad, Nat.reduceAdd, adz]; rfl) (by rintro _ ⟨⟩))) ?_
          refine AL.nil ?_
          refine thenN ?_
          refine AW.ret ?_
          refine inbR ?_
          refine thenR ?_
          refine .one (.inr rfl) (f := 78) (cs := [.ref 0 0]) (lm := [(0, pbox ((R n (.parse .or) (p.down.take bOpen)).2.must bClose))]) (lm' := [(0, pbox ((R n (.parse .or) (p.down.take bOpen)).2.must bClose).up)]) (r := .tup []) rfl (up_d _ hQ.1 hQ.2) en_78 rfl (.cons rfl .nil) rfl rfl rfl ?_
          refine fin_id (.inr rfl) (ends_of rfl (.cell ti_27 rfl rfl (by simp only [loaded, if_true, ler, tks, tkz, tkn, dps, dpz, cap, nap, apn, lnc, lnn, zad, Nat.reduceAdd, adz]; rfl) .nil)) ?_ (.cons rfl (Ob.le_of_eq (by first | (rw [R_atom_int (by assumption)]; simp [Pst.step]; done) | (rw [R_atom_text (by assumption)]; simp [Pst.step]; done) | (rw [R_atom_null (by assumption) (by assumption) (by assumption)]; exact congrArg pbox (take_t (by assumption))) | rw [R_atom_nest (by assumption) (by assumption) (by assumption) (by assumption)] | rw [R_atom_col (by assumption) (by assumption) (by assumption) (by assumption)])) .nil) rfl rfl rfl rfl
          simp only [retA]
          first | (rw [R_atom_int (by assumption)]; exact A.le_refl _) | (rw [R_atom_text (by assumption)]; exact A.le_refl _) | (rw [R_atom_null (by assumption) (by assumption) (by assumption)]; exact A.le_refl _) | (rw [R_atom_nest (by assumption) (by assumption) (by assumption) (by assumption)]; exact A.le_refl _) | (rw [R_atom_col (by assumption) (by assumption) (by assumption) (by assumption)]; exact A.le_refl _)
        · have h4n := h4; try simp only [dtt, dff, bqi, bqf, bni, bnf, nt1, nf1, nt0, nf0, ne_eq, ilt, ile] at h4n
          refine AW.skip ?_
          refine inbN ?_
          refine thenN ?_
          refine AW.seq ?_
          refine AW.region ?_
          refine AL.go (OpR.plain rfl (r_move rfl (nb rfl) (by rintro _ ⟨⟩))) ?_
          refine AL.go (OpR.plain rfl (r_callId (pcol_s p hg.ok) en_43 rfl rfl rfl rfl (.cons (A.le_refl _) .nil) rfl (.cons rfl .nil) rfl rfl rfl (nb rfl))) ?_
          refine AL.go (OpR.plain rfl (r_storeN ti_27 rfl rfl rfl rfl rfl (nb rfl) (by simp only [putAt, tks, tkz, tkn, dps, dpz, cap, nap, apn, lnc, lnn, zad, Nat.reduceAdd, adz]; rfl) (by rintro _ ⟨⟩))) ?_
          refine AL.nil ?_
          refine thenN ?_
          refine AW.ret ?_
          refine .plain ?_
          refine fin_id (.inr rfl) (ends_of rfl (.cell ti_27 rfl rfl (by simp only [loaded, if_true, ler, tks, tkz, tkn, dps, dpz, cap, nap, apn, lnc, lnn, zad, Nat.reduceAdd, adz]; rfl) .nil)) ?_ (.cons rfl (Ob.le_of_eq (by first | (rw [R_atom_int (by assumption)]; simp [Pst.step]; done) | (rw [R_atom_text (by assumption)]; simp [Pst.step]; done) | (rw [R_atom_null (by assumption) (by assumption) (by assumption)]; exact congrArg pbox (take_t (by assumption))) | rw [R_atom_nest (by assumption) (by assumption) (by assumption) (by assumption)] | rw [R_atom_col (by assumption) (by assumption) (by assumption) (by assumption)])) .nil) rfl rfl rfl rfl
          simp only [retA]
          first | (rw [R_atom_int (by assumption)]; exact A.le_refl _) | (rw [R_atom_text (by assumption)]; exact A.le_refl _) | (rw [R_atom_null (by assumption) (by assumption) (by assumption)]; exact A.le_refl _) | (rw [R_atom_nest (by assumption) (by assumption) (by assumption) (by assumption)]; exact A.le_refl _) | (rw [R_atom_col (by assumption) (by assumption) (by assumption) (by assumption)]; exact A.le_refl _)

end Go.Par
