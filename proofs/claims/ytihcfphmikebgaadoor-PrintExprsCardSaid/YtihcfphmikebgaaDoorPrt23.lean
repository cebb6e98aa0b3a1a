import Derived.Test.YtihcfphmikebgaaDoorPrt22
namespace Go.Par
open Go Go.Am Go.Proofs Go.RowKit
set_option linter.unusedVariables false
set_option linter.unusedSimpArgs false

theorem en_13 : enters Tryd.prog 13 = true := by kernel_rfl
theorem en_17 : enters Tryd.prog 17 = true := by kernel_rfl
theorem en_19 : enters Tryd.prog 19 = true := by kernel_rfl
theorem en_30 : enters Tryd.prog 30 = true := by kernel_rfl
theorem en_51 : enters Tryd.prog 51 = true := by kernel_rfl
theorem en_52 : enters Tryd.prog 52 = true := by kernel_rfl

theorem rside_s (e : Ex) (i : Int) (h0 : 0 ≤ i) (hi : i ≤ 1) (hx : RPrs (e.part i.toNat)) (hs : (e.part i.toNat).pr.size ≤ 1000000000) : Am.Spec Tryd.prog 30 [exA e, A.i64 i] [] (A.val (.string (parM (asksM e.op i) (e.part i.toNat) (e.part i.toNat).pr))) [] := by
  refine spec_ofN (n := 32) Tryd.func30 rfl rfl (nb rfl) ?_
  show AW _ _ (⟨[(0, exA e), (1, A.i64 i)], [], []⟩ : St) _
  refine AW.seq ?_
  refine AW.region ?_
  refine AL.go (OpR.plain rfl (r_box 101 rfl rfl rfl (nb rfl) (by rintro _ ⟨⟩))) ?_
  refine AL.go (OpR.plain rfl (r_assign rfl (nb rfl) (by rintro _ ⟨⟩; rfl))) ?_
  refine AL.nil ?_
  refine thenN ?_
  refine AW.seq ?_
  refine AW.region ?_
  refine AL.go (OpR.plain rfl (r_build pl_27 rfl zc_27 rfl rfl (by simp only [fillC, putAt, gez, ges, if_true, and_self, Nat.reduceLeDiff, true_and, tks, tkz, tkn, dps, dpz, cap, nap, apn, lnc, lnn, zad, Nat.reduceAdd, adz]; rfl) (nb rfl))) ?_
  refine AL.go (OpR.plain rfl (r_alloc 102 ti_27 zc_27 rfl rfl (nb rfl))) ?_
  refine AL.go (OpR.plain rfl (r_storeN ti_27 rfl rfl rfl rfl rfl (nb rfl) (by simp only [putAt, tks, tkz, tkn, dps, dpz, cap, nap, apn, lnc, lnn, zad, Nat.reduceAdd, adz]; rfl) (by rintro _ ⟨⟩))) ?_
  refine AL.nil ?_
  refine thenN ?_
  refine AW.seq ?_
  refine AW.seq ?_
  refine AW.region ?_
  refine AL.go (OpR.plain rfl (r_move rfl (nb rfl) (by rintro _ ⟨⟩))) ?_
  first | refine AL.go (OpR.plain rfl (r_fieldAddr fo_27_6 (by decide) rfl (nb rfl))) ?_ | refine AL.go (OpR.plain rfl (r_fieldAddrp fo_27_6 (by decide) rfl (nb rfl))) ?_
  first | refine AL.go (OpR.plain rfl (r_load ti_25 rfl rfl rfl (nb rfl))) ?_ | refine AL.go (OpR.plain rfl (r_loadp ti_25 rfl rfl (nb rfl))) ?_
  refine AL.go (OpR.plain rfl (r_len un_25 rfl (by first | exact .sl | exact .own | exact .row | exact .nil) (by intro _ h; cases h) (nb rfl) (by rintro _ ⟨⟩))) ?_
  refine AL.go (OpR.plain rfl (r_bin rfl rfl (nb rfl) rfl (run_int_lss _ _ _))) ?_
  refine AL.nil ?_
  refine thenN ?_
  refine AW.condb rfl (fun h1 => ?_) (fun h1 => ?_)
  · have h1n := h1; try simp only [dtt, dff, bqi, bqf, bni, bnf, nt1, nf1, nt0, nf0, ne_eq, ilt, ile, rows_length] at h1n
    refine AW.region ?_
    first | refine AL.go (OpR.plain rfl (r_fieldAddr fo_27_6 (by decide) rfl (nb rfl))) ?_ | refine AL.go (OpR.plain rfl (r_fieldAddrp fo_27_6 (by decide) rfl (nb rfl))) ?_
    first | refine AL.go (OpR.plain rfl (r_load ti_25 rfl rfl rfl (nb rfl))) ?_ | refine AL.go (OpR.plain rfl (r_loadp ti_25 rfl rfl (nb rfl))) ?_
    refine AL.go (OpR.plain rfl (r_move rfl (nb rfl) (by rintro _ ⟨⟩))) ?_
    refine AL.go (OpR.plain rfl (r_indexAddr un_25 ti_27 rfl (by first | exact .inl rfl | exact .inr ⟨_, rfl⟩) rfl rows_len (by first | omega | (simp only [rows_length] at *; omega) | (simp only [ByteArray.size_append, sz1]; omega)) (part_row (by omega) (by first | omega | (simp only [rows_length] at *; omega))) (nb rfl))) ?_
    first | refine AL.go (OpR.plain rfl (r_load ti_27 rfl rfl (by simp only [loaded, mpc, mpn, if_true, ler, tks, tkz, tkn, dps, dpz, cap, nap, apn, lnc, lnn, zad, Nat.reduceAdd, adz]; rfl) (nb rfl))) ?_ | refine AL.go (OpR.plain rfl (r_loadp ti_27 rfl (by simp only [loaded, mpc, mpn, if_true, ler, tks, tkz, tkn, dps, dpz, cap, nap, apn, lnc, lnn, zad, Nat.reduceAdd, adz]; rfl) (nb rfl))) ?_
    refine AL.go (OpR.plain rfl (r_storeN ti_27 rfl rfl rfl rfl rfl (nb rfl) (by simp only [putAt, tks, tkz, tkn, dps, dpz, cap, nap, apn, lnc, lnn, zad, Nat.reduceAdd, adz]; rfl) (by rintro _ ⟨⟩))) ?_
    refine AL.nil ?_
    refine thenN ?_
    refine AW.seq ?_
    refine AW.region ?_
    first | refine AL.go (OpR.plain rfl (r_load ti_27 rfl rfl (by simp only [loaded, mpc, mpn, if_true, ler, tks, tkz, tkn, dps, dpz, cap, nap, apn, lnc, lnn, zad, Nat.reduceAdd, adz]; rfl) (nb rfl))) ?_ | refine AL.go (OpR.plain rfl (r_loadp ti_27 rfl (by simp only [loaded, mpc, mpn, if_true, ler, tks, tkz, tkn, dps, dpz, cap, nap, apn, lnc, lnn, zad, Nat.reduceAdd, adz]; rfl) (nb rfl))) ?_
    refine AL.go (OpR.plain rfl (r_callFun (hx) en_13 rfl rfl rfl rfl (.cons (by first | exact A.le_refl _ | (rw [part_over (by omega)]; exact A.le_agg (.cons (C.le_refl _) (.cons (C.le_refl _) (.cons (C.le_refl _) (.cons (C.le_refl _) (.cons (C.le_refl _) (.cons (C.le_refl _) (.cons (C.le_refl _) (.cons (C.le_refl _) (.cons C.le_nil .nil))))))))))) .nil) rfl (nb rfl))) ?_
    refine AL.go (OpR.plain rfl (r_assign rfl (nb rfl) (by rintro _ ⟨⟩))) ?_
    refine AL.nil ?_
    refine thenN ?_
    refine AW.seq ?_
    refine AW.seq ?_
    refine AW.draw ?_
    first | refine DW.go (OpR.plain rfl (r_fieldAddr fo_27_0 (by decide) rfl (nb rfl))) ?_ | refine DW.go (OpR.plain rfl (r_fieldAddrp fo_27_0 (by decide) rfl (nb rfl))) ?_
    first | refine DW.go (OpR.plain rfl (r_load ti_3 rfl rfl rfl (nb rfl))) ?_ | refine DW.go (OpR.plain rfl (r_loadp ti_3 rfl rfl (nb rfl))) ?_
    refine DW.go (OpR.plain rfl (r_callFun (rlevel_s _) en_51 rfl rfl rfl rfl (.cons (A.le_refl _) .nil) rfl (nb rfl))) ?_
    first | refine DW.go (OpR.plain rfl (r_fieldAddr fo_27_0 (by decide) rfl (nb rfl))) ?_ | refine DW.go (OpR.plain rfl (r_fieldAddrp fo_27_0 (by decide) rfl (nb rfl))) ?_
    first | refine DW.go (OpR.plain rfl (r_load ti_3 rfl rfl rfl (nb rfl))) ?_ | refine DW.go (OpR.plain rfl (r_loadp ti_3 rfl rfl (nb rfl))) ?_
    refine DW.go (OpR.plain rfl (r_move rfl (nb rfl) (by rintro _ ⟨⟩))) ?_
    refine DW.go (OpR.plain rfl (r_callFun (rasks_s _ _ h0 hi) en_52 rfl rfl rfl rfl (.cons (A.le_refl _) (.cons (A.le_refl _) .nil)) rfl (nb rfl))) ?_
    refine DW.go (OpR.plain rfl (r_bin rfl rfl (nb rfl) rfl (run_int_lss _ _ _))) ?_
    refine DW.fin mixed (by kernel_rfl) (by kernel_rfl) ?_
    refine thenN ?_
    refine AW.condb rfl (fun h2 => ?_) (fun h2 => ?_)
    · have h2n := h2; try simp only [dtt, dff, bqi, bqf, bni, bnf, nt1, nf1, nt0, nf0, ne_eq, ilt, ile, rows_length] at h2n
      refine AW.region ?_
      refine AL.go (OpR.plain rfl (r_move rfl (nb rfl) (by rintro _ ⟨⟩))) ?_
      refine AL.go (OpR.plain rfl (r_bin rfl rfl (nb rfl) rfl (run_str_add _ _ (by first | omega | (simp only [rows_length] at *; omega) | (simp only [ByteArray.size_append, sz1]; omega))))) ?_
      refine AL.go (OpR.plain rfl (r_bin rfl rfl (nb rfl) rfl (run_str_add _ _ (by first | omega | (simp only [rows_length] at *; omega) | (simp only [ByteArray.size_append, sz1]; omega))))) ?_
      refine AL.go (OpR.plain rfl (r_assign rfl (nb rfl) (by rintro _ ⟨⟩))) ?_
      refine AL.nil ?_
      refine thenN ?_
      refine AW.seq ?_
      refine AW.region ?_
      refine AL.go (OpR.plain rfl (r_move rfl (nb rfl) (by rintro _ ⟨⟩))) ?_
      refine AL.go (OpR.plain rfl (r_assign rfl (nb rfl) (by rintro _ ⟨⟩))) ?_
      refine AL.nil ?_
      refine thenN ?_
      refine AW.ret ?_
      refine fin_id (.inr rfl) (ends_of rfl (.tmp rfl .nil)) ?_ .nil rfl rfl rfl rfl
      simp only [retA]
      refine A.le_of_eq ?_
      unfold parM
      first | rw [if_pos (by assumption)] | rw [if_neg (by omega)] | (rw [part_over (by omega)] at *; have hz : levelM Ex.zero.op = levelM 0 := rfl; first | rw [if_pos (by assumption)] | rw [if_neg (by omega)])
    · have h2n := h2; try simp only [dtt, dff, bqi, bqf, bni, bnf, nt1, nf1, nt0, nf0, ne_eq, ilt, ile, rows_length] at h2n
      refine AW.skip ?_
      refine thenN ?_
      refine AW.seq ?_
      refine AW.region ?_
      refine AL.go (OpR.plain rfl (r_move rfl (nb rfl) (by rintro _ ⟨⟩))) ?_
      refine AL.go (OpR.plain rfl (r_assign rfl (nb rfl) (by rintro _ ⟨⟩))) ?_
      refine AL.nil ?_
      refine thenN ?_
      refine AW.ret ?_
      refine fin_id (.inr rfl) (ends_of rfl (.tmp rfl .nil)) ?_ .nil rfl rfl rfl rfl
      simp only [retA]
      refine A.le_of_eq ?_
      unfold parM
      first | rw [if_pos (by assumption)] | rw [if_neg (by omega)] | (rw [part_over (by omega)] at *; have hz : levelM Ex.zero.op = levelM 0 := rfl; first | rw [if_pos (by assumption)] | rw [if_neg (by omega)])
  · have h1n := h1; try simp only [dtt, dff, bqi, bqf, bni, bnf, nt1, nf1, nt0, nf0, ne_eq, ilt, ile, rows_length] at h1n
    refine AW.skip ?_
    refine thenN ?_
    refine AW.seq ?_
    refine AW.region ?_
    first | refine AL.go (OpR.plain rfl (r_load ti_27 rfl rfl (by simp only [loaded, mpc, mpn, if_true, ler, tks, tkz, tkn, dps, dpz, cap, nap, apn, lnc, lnn, zad, Nat.reduceAdd, adz]; rfl) (nb rfl))) ?_ | refine AL.go (OpR.plain rfl (r_loadp ti_27 rfl (by simp only [loaded, mpc, mpn, if_true, ler, tks, tkz, tkn, dps, dpz, cap, nap, apn, lnc, lnn, zad, Nat.reduceAdd, adz]; rfl) (nb rfl))) ?_
    refine AL.go (OpR.plain rfl (r_callFun (hx) en_13 rfl rfl rfl rfl (.cons (by first | exact A.le_refl _ | (rw [part_over (by omega)]; exact A.le_agg (.cons (C.le_refl _) (.cons (C.le_refl _) (.cons (C.le_refl _) (.cons (C.le_refl _) (.cons (C.le_refl _) (.cons (C.le_refl _) (.cons (C.le_refl _) (.cons (C.le_refl _) (.cons C.le_nil .nil))))))))))) .nil) rfl (nb rfl))) ?_
    refine AL.go (OpR.plain rfl (r_assign rfl (nb rfl) (by rintro _ ⟨⟩))) ?_
    refine AL.nil ?_
    refine thenN ?_
    refine AW.seq ?_
    refine AW.seq ?_
    refine AW.draw ?_
    first | refine DW.go (OpR.plain rfl (r_fieldAddr fo_27_0 (by decide) rfl (nb rfl))) ?_ | refine DW.go (OpR.plain rfl (r_fieldAddrp fo_27_0 (by decide) rfl (nb rfl))) ?_
    first | refine DW.go (OpR.plain rfl (r_load ti_3 rfl rfl rfl (nb rfl))) ?_ | refine DW.go (OpR.plain rfl (r_loadp ti_3 rfl rfl (nb rfl))) ?_
    refine DW.go (OpR.plain rfl (r_callFun (rlevel_s _) en_51 rfl rfl rfl rfl (.cons (A.le_refl _) .nil) rfl (nb rfl))) ?_
    first | refine DW.go (OpR.plain rfl (r_fieldAddr fo_27_0 (by decide) rfl (nb rfl))) ?_ | refine DW.go (OpR.plain rfl (r_fieldAddrp fo_27_0 (by decide) rfl (nb rfl))) ?_
    first | refine DW.go (OpR.plain rfl (r_load ti_3 rfl rfl rfl (nb rfl))) ?_ | refine DW.go (OpR.plain rfl (r_loadp ti_3 rfl rfl (nb rfl))) ?_
    refine DW.go (OpR.plain rfl (r_move rfl (nb rfl) (by rintro _ ⟨⟩))) ?_
    refine DW.go (OpR.plain rfl (r_callFun (rasks_s _ _ h0 hi) en_52 rfl rfl rfl rfl (.cons (A.le_refl _) (.cons (A.le_refl _) .nil)) rfl (nb rfl))) ?_
    refine DW.go (OpR.plain rfl (r_bin rfl rfl (nb rfl) rfl (run_int_lss _ _ _))) ?_
    refine DW.fin mixed (by kernel_rfl) (by kernel_rfl) ?_
    refine thenN ?_
    refine AW.condb rfl (fun h3 => ?_) (fun h3 => ?_)
    · have h3n := h3; try simp only [dtt, dff, bqi, bqf, bni, bnf, nt1, nf1, nt0, nf0, ne_eq, ilt, ile, rows_length] at h3n
      refine AW.region ?_
      refine AL.go (OpR.plain rfl (r_move rfl (nb rfl) (by rintro _ ⟨⟩))) ?_
      refine AL.go (OpR.plain rfl (r_bin rfl rfl (nb rfl) rfl (run_str_add _ _ (by first | omega | (simp only [rows_length] at *; omega) | (simp only [ByteArray.size_append, sz1]; omega))))) ?_
      refine AL.go (OpR.plain rfl (r_bin rfl rfl (nb rfl) rfl (run_str_add _ _ (by first | omega | (simp only [rows_length] at *; omega) | (simp only [ByteArray.size_append, sz1]; omega))))) ?_
      refine AL.go (OpR.plain rfl (r_assign rfl (nb rfl) (by rintro _ ⟨⟩))) ?_
      refine AL.nil ?_
      refine thenN ?_
      refine AW.seq ?_
      refine AW.region ?_
      refine AL.go (OpR.plain rfl (r_move rfl (nb rfl) (by rintro _ ⟨⟩))) ?_
      refine AL.go (OpR.plain rfl (r_assign rfl (nb rfl) (by rintro _ ⟨⟩))) ?_
      refine AL.nil ?_
      refine thenN ?_
      refine AW.ret ?_
      refine fin_id (.inr rfl) (ends_of rfl (.tmp rfl .nil)) ?_ .nil rfl rfl rfl rfl
      simp only [retA]
      refine A.le_of_eq ?_
      unfold parM
      first | rw [if_pos (by assumption)] | rw [if_neg (by omega)] | (rw [part_over (by omega)] at *; have hz : levelM Ex.zero.op = levelM 0 := rfl; first | rw [if_pos (by assumption)] | rw [if_neg (by omega)])
    · have h3n := h3; try simp only [dtt, dff, bqi, bqf, bni, bnf, nt1, nf1, nt0, nf0, ne_eq, ilt, ile, rows_length] at h3n
      refine AW.skip ?_
      refine thenN ?_
      refine AW.seq ?_
      refine AW.region ?_
      refine AL.go (OpR.plain rfl (r_move rfl (nb rfl) (by rintro _ ⟨⟩))) ?_
      refine AL.go (OpR.plain rfl (r_assign rfl (nb rfl) (by rintro _ ⟨⟩))) ?_
      refine AL.nil ?_
      refine thenN ?_
      refine AW.ret ?_
      refine fin_id (.inr rfl) (ends_of rfl (.tmp rfl .nil)) ?_ .nil rfl rfl rfl rfl
      simp only [retA]
      refine A.le_of_eq ?_
      unfold parM
      first | rw [if_pos (by assumption)] | rw [if_neg (by omega)] | (rw [part_over (by omega)] at *; have hz : levelM Ex.zero.op = levelM 0 := rfl; first | rw [if_pos (by assumption)] | rw [if_neg (by omega)])

set_option maxHeartbeats 1000000 in
theorem rexpr_p (e : Ex) (hP : PrOk e) (hx : recs e.op = true → RPrs (e.part 0)) (hy : recs e.op = true → RPrs (e.part 1)) : Am.Spec Tryd.prog 13 [exA e] [] (A.val (.string e.pr)) [] := by
  refine spec_ofN (n := 94) Tryd.func13 rfl rfl (nb rfl) ?_
  show AW _ _ (⟨[(0, exA e)], [], []⟩ : St) _
  have hPx := hP.x
  have hPy := hP.y
  have hPt := hP.tab
  have hPn := hP.name
  have hOp := opM_size e.op
  have hB1 := parM_size (asksM e.op 1) (e.part 1) (e.part 1).pr
  have hA1 := parM_size (asksM e.op 0) (e.part 0) (e.part 0).pr
  have hA5 := parM_size 5 (e.part 0) (e.part 0).pr
  have hA3 := parM_size 3 (e.part 0) (e.part 0).pr
  refine AW.seq ?_
  refine AW.region ?_
  refine AL.go (OpR.plain rfl (r_box 101 rfl rfl rfl (nb rfl) (by rintro _ ⟨⟩))) ?_
  refine AL.go (OpR.plain rfl (r_assign rfl (nb rfl) (by rintro _ ⟨⟩; rfl))) ?_
  refine AL.nil ?_
  refine thenN ?_
  refine AW.seq ?_
  refine AW.seq ?_
  refine AW.region ?_
  first | refine AL.go (OpR.plain rfl (r_fieldAddr fo_27_0 (by decide) rfl (nb rfl))) ?_ | refine AL.go (OpR.plain rfl (r_fieldAddrp fo_27_0 (by decide) rfl (nb rfl))) ?_
  first | refine AL.go (OpR.plain rfl (r_load ti_3 rfl rfl rfl (nb rfl))) ?_ | refine AL.go (OpR.plain rfl (r_loadp ti_3 rfl rfl (nb rfl))) ?_
  refine AL.go (OpR.plain rfl (r_bin rfl rfl (nb rfl) rfl (run_int_geq _ _ _))) ?_
  refine AL.go (OpR.plain rfl (r_move rfl (nb rfl) (by rintro _ ⟨⟩))) ?_
  refine AL.ifb (t := 7) rfl (fun h1 => ?_) (fun h1 => ?_)
  · have h1n := h1; try simp only [dtt, dff, bqi, bqf, bni, bnf, nt1, nf1, nt0, nf0, ne_eq, ilt, ile, rows_length] at h1n
    first | refine AL.go (OpR.onb rfl rfl (nb rfl) rfl (h1) (r_fieldAddr fo_27_0 (by decide) rfl (nb rfl))) ?_ | refine AL.go (OpR.onb rfl rfl (nb rfl) rfl (h1) (r_fieldAddrp fo_27_0 (by decide) rfl (nb rfl))) ?_
    first | refine AL.go (OpR.onb rfl rfl (nb rfl) rfl (h1) (r_load ti_3 rfl rfl rfl (nb rfl))) ?_ | refine AL.go (OpR.onb rfl rfl (nb rfl) rfl (h1) (r_loadp ti_3 rfl rfl (nb rfl))) ?_
    refine AL.go (OpR.onb rfl rfl (nb rfl) rfl (h1) (r_bin rfl rfl (nb rfl) rfl (run_int_leq _ _ _))) ?_
    refine AL.go (OpR.plain rfl (r_pickTb rfl (h1) rfl (nb rfl) (by rintro _ ⟨⟩))) ?_
    refine AL.nil ?_
    refine thenN ?_
    refine AW.condb rfl (fun h2 => ?_) (fun h2 => ?_)
    · have h2n := h2; try simp only [dtt, dff, bqi, bqf, bni, bnf, nt1, nf1, nt0, nf0, ne_eq, ilt, ile, rows_length] at h2n
      refine AW.seq ?_
      refine AW.draw ?_
      first | refine DW.go (OpR.plain rfl (r_load ti_27 rfl rfl (by simp only [loaded, mpc, mpn, if_true, ler, tks, tkz, tkn, dps, dpz, cap, nap, apn, lnc, lnn, zad, Nat.reduceAdd, adz]; rfl) (nb rfl))) ?_ | refine DW.go (OpR.plain rfl (r_loadp ti_27 rfl (by simp only [loaded, mpc, mpn, if_true, ler, tks, tkz, tkn, dps, dpz, cap, nap, apn, lnc, lnn, zad, Nat.reduceAdd, adz]; rfl) (nb rfl))) ?_
      refine DW.go (OpR.plain rfl (r_callFun (rside_s e 0 (by decide) (by decide) (hx (recs_of (by omega))) hP.x) en_30 rfl rfl rfl rfl (.cons (A.le_refl _) (.cons (A.le_refl _) .nil)) rfl (nb rfl))) ?_
      refine DW.go (OpR.plain rfl (r_bin rfl rfl (nb rfl) rfl (run_str_add _ _ (by first | omega | (simp only [rows_length] at *; omega) | (simp only [ByteArray.size_append, sz1, sz2, sz4, sz8, sz12, Int.toNat_zero, Int.toNat_one] at *; omega))))) ?_
      first | refine DW.go (OpR.plain rfl (r_fieldAddr fo_27_0 (by decide) rfl (nb rfl))) ?_ | refine DW.go (OpR.plain rfl (r_fieldAddrp fo_27_0 (by decide) rfl (nb rfl))) ?_
      first | refine DW.go (OpR.plain rfl (r_load ti_3 rfl rfl rfl (nb rfl))) ?_ | refine DW.go (OpR.plain rfl (r_loadp ti_3 rfl rfl (nb rfl))) ?_
      refine DW.go (OpR.plain rfl (r_callFun (rop_s _) en_17 rfl rfl rfl rfl (.cons (A.le_refl _) .nil) rfl (nb rfl))) ?_
      refine DW.go (OpR.plain rfl (r_bin rfl rfl (nb rfl) rfl (run_str_add _ _ (by first | omega | (simp only [rows_length] at *; omega) | (simp only [ByteArray.size_append, sz1, sz2, sz4, sz8, sz12, Int.toNat_zero, Int.toNat_one] at *; omega))))) ?_
      refine DW.go (OpR.plain rfl (r_bin rfl rfl (nb rfl) rfl (run_str_add _ _ (by first | omega | (simp only [rows_length] at *; omega) | (simp only [ByteArray.size_append, sz1, sz2, sz4, sz8, sz12, Int.toNat_zero, Int.toNat_one] at *; omega))))) ?_
      first | refine DW.go (OpR.plain rfl (r_load ti_27 rfl rfl (by simp only [loaded, mpc, mpn, if_true, ler, tks, tkz, tkn, dps, dpz, cap, nap, apn, lnc, lnn, zad, Nat.reduceAdd, adz]; rfl) (nb rfl))) ?_ | refine DW.go (OpR.plain rfl (r_loadp ti_27 rfl (by simp only [loaded, mpc, mpn, if_true, ler, tks, tkz, tkn, dps, dpz, cap, nap, apn, lnc, lnn, zad, Nat.reduceAdd, adz]; rfl) (nb rfl))) ?_
      refine DW.go (OpR.plain rfl (r_callFun (rside_s e 1 (by decide) (by decide) (hy (recs_of (by omega))) hP.y) en_30 rfl rfl rfl rfl (.cons (A.le_refl _) (.cons (A.le_refl _) .nil)) rfl (nb rfl))) ?_
      refine DW.go (OpR.plain rfl (r_bin rfl rfl (nb rfl) rfl (run_str_add _ _ (by first | omega | (simp only [rows_length] at *; omega) | (simp only [ByteArray.size_append, sz1, sz2, sz4, sz8, sz12, Int.toNat_zero, Int.toNat_one] at *; omega))))) ?_
      refine DW.go (OpR.plain rfl (r_assign rfl (nb rfl) (by rintro _ ⟨⟩))) ?_
      refine DW.fin mixed (by kernel_rfl) (by kernel_rfl) ?_
      refine thenN ?_
      refine AW.ret ?_
      refine thenR ?_
      refine fin_id (.inr rfl) (ends_of rfl (.tmp rfl .nil)) ?_ .nil rfl rfl rfl rfl
      simp only [retA]
      refine A.le_of_eq ?_
      try (exfalso; omega)
      try rw [Ex.pr_eq e]
      try unfold prOp
      repeat (first | rw [if_pos (by first | assumption | omega)] | rw [if_neg (by first | assumption | omega)])
      try rfl
      try (rw [show asksM e.op 0 = 3 by unfold asksM; repeat (first | rw [if_pos (by omega)] | rw [if_neg (by omega)])]; rfl)
      try (rw [show asksM e.op 0 = 5 by unfold asksM; repeat (first | rw [if_pos (by omega)] | rw [if_neg (by omega)])]; rfl)
    · have h2n := h2; try simp only [dtt, dff, bqi, bqf, bni, bnf, nt1, nf1, nt0, nf0, ne_eq, ilt, ile, rows_length] at h2n
      refine AW.skip ?_
      refine thenN ?_
      refine AW.seq ?_
      refine AW.seq ?_
      refine AW.region ?_
      first | refine AL.go (OpR.plain rfl (r_fieldAddr fo_27_0 (by decide) rfl (nb rfl))) ?_ | refine AL.go (OpR.plain rfl (r_fieldAddrp fo_27_0 (by decide) rfl (nb rfl))) ?_
      first | refine AL.go (OpR.plain rfl (r_load ti_3 rfl rfl rfl (nb rfl))) ?_ | refine AL.go (OpR.plain rfl (r_loadp ti_3 rfl rfl (nb rfl))) ?_
      refine AL.go (OpR.plain rfl (r_bin rfl rfl (nb rfl) rfl (run_int_eql _ _ _))) ?_
      refine AL.nil ?_
      refine thenN ?_
      refine AW.condb rfl (fun h3 => ?_) (fun h3 => ?_)
      · have h3n := h3; try simp only [dtt, dff, bqi, bqf, bni, bnf, nt1, nf1, nt0, nf0, ne_eq, ilt, ile, rows_length] at h3n
        refine AW.seq ?_
        refine AW.region ?_
        first | refine AL.go (OpR.plain rfl (r_load ti_27 rfl rfl (by simp only [loaded, mpc, mpn, if_true, ler, tks, tkz, tkn, dps, dpz, cap, nap, apn, lnc, lnn, zad, Nat.reduceAdd, adz]; rfl) (nb rfl))) ?_ | refine AL.go (OpR.plain rfl (r_loadp ti_27 rfl (by simp only [loaded, mpc, mpn, if_true, ler, tks, tkz, tkn, dps, dpz, cap, nap, apn, lnc, lnn, zad, Nat.reduceAdd, adz]; rfl) (nb rfl))) ?_
        refine AL.go (OpR.plain rfl (r_callFun (rside_s e 0 (by decide) (by decide) (hx (recs_of (by omega))) hP.x) en_30 rfl rfl rfl rfl (.cons (A.le_refl _) (.cons (A.le_refl _) .nil)) rfl (nb rfl))) ?_
        refine AL.go (OpR.plain rfl (r_bin rfl rfl (nb rfl) rfl (run_str_add _ _ (by first | omega | (simp only [rows_length] at *; omega) | (simp only [ByteArray.size_append, sz1, sz2, sz4, sz8, sz12, Int.toNat_zero, Int.toNat_one] at *; omega))))) ?_
        refine AL.go (OpR.plain rfl (r_assign rfl (nb rfl) (by rintro _ ⟨⟩))) ?_
        refine AL.nil ?_
        refine thenN ?_
        refine AW.ret ?_
        refine thenR ?_
        refine fin_id (.inr rfl) (ends_of rfl (.tmp rfl .nil)) ?_ .nil rfl rfl rfl rfl
        simp only [retA]
        refine A.le_of_eq ?_
        try (exfalso; omega)
        try rw [Ex.pr_eq e]
        try unfold prOp
        repeat (first | rw [if_pos (by first | assumption | omega)] | rw [if_neg (by first | assumption | omega)])
        try rfl
        try (rw [show asksM e.op 0 = 3 by unfold asksM; repeat (first | rw [if_pos (by omega)] | rw [if_neg (by omega)])]; rfl)
        try (rw [show asksM e.op 0 = 5 by unfold asksM; repeat (first | rw [if_pos (by omega)] | rw [if_neg (by omega)])]; rfl)
      · have h3n := h3; try simp only [dtt, dff, bqi, bqf, bni, bnf, nt1, nf1, nt0, nf0, ne_eq, ilt, ile, rows_length] at h3n
        refine AW.skip ?_
        refine thenN ?_
        refine AW.seq ?_
        refine AW.seq ?_
        refine AW.region ?_
        first | refine AL.go (OpR.plain rfl (r_fieldAddr fo_27_0 (by decide) rfl (nb rfl))) ?_ | refine AL.go (OpR.plain rfl (r_fieldAddrp fo_27_0 (by decide) rfl (nb rfl))) ?_
        first | refine AL.go (OpR.plain rfl (r_load ti_3 rfl rfl rfl (nb rfl))) ?_ | refine AL.go (OpR.plain rfl (r_loadp ti_3 rfl rfl (nb rfl))) ?_
        refine AL.go (OpR.plain rfl (r_bin rfl rfl (nb rfl) rfl (run_int_eql _ _ _))) ?_
        refine AL.nil ?_
        refine thenN ?_
        refine AW.condb rfl (fun h4 => ?_) (fun h4 => ?_)
        · have h4n := h4; try simp only [dtt, dff, bqi, bqf, bni, bnf, nt1, nf1, nt0, nf0, ne_eq, ilt, ile, rows_length] at h4n
          refine AW.seq ?_
          refine AW.region ?_
          first | refine AL.go (OpR.plain rfl (r_load ti_27 rfl rfl (by simp only [loaded, mpc, mpn, if_true, ler, tks, tkz, tkn, dps, dpz, cap, nap, apn, lnc, lnn, zad, Nat.reduceAdd, adz]; rfl) (nb rfl))) ?_ | refine AL.go (OpR.plain rfl (r_loadp ti_27 rfl (by simp only [loaded, mpc, mpn, if_true, ler, tks, tkz, tkn, dps, dpz, cap, nap, apn, lnc, lnn, zad, Nat.reduceAdd, adz]; rfl) (nb rfl))) ?_
          refine AL.go (OpR.plain rfl (r_callFun (rside_s e 0 (by decide) (by decide) (hx (recs_of (by omega))) hP.x) en_30 rfl rfl rfl rfl (.cons (A.le_refl _) (.cons (A.le_refl _) .nil)) rfl (nb rfl))) ?_
          refine AL.go (OpR.plain rfl (r_bin rfl rfl (nb rfl) rfl (run_str_add _ _ (by first | omega | (simp only [rows_length] at *; omega) | (simp only [ByteArray.size_append, sz1, sz2, sz4, sz8, sz12, Int.toNat_zero, Int.toNat_one] at *; omega))))) ?_
          refine AL.go (OpR.plain rfl (r_assign rfl (nb rfl) (by rintro _ ⟨⟩))) ?_
          refine AL.nil ?_
          refine thenN ?_
          refine AW.ret ?_
          refine thenR ?_
          refine fin_id (.inr rfl) (ends_of rfl (.tmp rfl .nil)) ?_ .nil rfl rfl rfl rfl
          simp only [retA]
          refine A.le_of_eq ?_
          try (exfalso; omega)
          try rw [Ex.pr_eq e]
          try unfold prOp
          repeat (first | rw [if_pos (by first | assumption | omega)] | rw [if_neg (by first | assumption | omega)])
          try rfl
          try (rw [show asksM e.op 0 = 3 by unfold asksM; repeat (first | rw [if_pos (by omega)] | rw [if_neg (by omega)])]; rfl)
          try (rw [show asksM e.op 0 = 5 by unfold asksM; repeat (first | rw [if_pos (by omega)] | rw [if_neg (by omega)])]; rfl)
        · have h4n := h4; try simp only [dtt, dff, bqi, bqf, bni, bnf, nt1, nf1, nt0, nf0, ne_eq, ilt, ile, rows_length] at h4n
          refine AW.skip ?_
          refine thenN ?_
          refine AW.seq ?_
          refine AW.seq ?_
          refine AW.region ?_
          first | refine AL.go (OpR.plain rfl (r_fieldAddr fo_27_0 (by decide) rfl (nb rfl))) ?_ | refine AL.go (OpR.plain rfl (r_fieldAddrp fo_27_0 (by decide) rfl (nb rfl))) ?_
          first | refine AL.go (OpR.plain rfl (r_load ti_3 rfl rfl rfl (nb rfl))) ?_ | refine AL.go (OpR.plain rfl (r_loadp ti_3 rfl rfl (nb rfl))) ?_
          refine AL.go (OpR.plain rfl (r_bin rfl rfl (nb rfl) rfl (run_int_eql _ _ _))) ?_
          refine AL.nil ?_
          refine thenN ?_
          refine AW.condb rfl (fun h5 => ?_) (fun h5 => ?_)
          · have h5n := h5; try simp only [dtt, dff, bqi, bqf, bni, bnf, nt1, nf1, nt0, nf0, ne_eq, ilt, ile, rows_length] at h5n
            refine AW.seq ?_
            refine AW.region ?_
            first | refine AL.go (OpR.plain rfl (r_load ti_27 rfl rfl (by simp only [loaded, mpc, mpn, if_true, ler, tks, tkz, tkn, dps, dpz, cap, nap, apn, lnc, lnn, zad, Nat.reduceAdd, adz]; rfl) (nb rfl))) ?_ | refine AL.go (OpR.plain rfl (r_loadp ti_27 rfl (by simp only [loaded, mpc, mpn, if_true, ler, tks, tkz, tkn, dps, dpz, cap, nap, apn, lnc, lnn, zad, Nat.reduceAdd, adz]; rfl) (nb rfl))) ?_
            refine AL.go (OpR.plain rfl (r_callFun (rside_s e 0 (by decide) (by decide) (hx (recs_of (by omega))) hP.x) en_30 rfl rfl rfl rfl (.cons (A.le_refl _) (.cons (A.le_refl _) .nil)) rfl (nb rfl))) ?_
            refine AL.go (OpR.plain rfl (r_bin rfl rfl (nb rfl) rfl (run_str_add _ _ (by first | omega | (simp only [rows_length] at *; omega) | (simp only [ByteArray.size_append, sz1, sz2, sz4, sz8, sz12, Int.toNat_zero, Int.toNat_one] at *; omega))))) ?_
            refine AL.go (OpR.plain rfl (r_assign rfl (nb rfl) (by rintro _ ⟨⟩))) ?_
            refine AL.nil ?_
            refine thenN ?_
            refine AW.ret ?_
            refine thenR ?_
            refine fin_id (.inr rfl) (ends_of rfl (.tmp rfl .nil)) ?_ .nil rfl rfl rfl rfl
            simp only [retA]
            refine A.le_of_eq ?_
            try (exfalso; omega)
            try rw [Ex.pr_eq e]
            try unfold prOp
            repeat (first | rw [if_pos (by first | assumption | omega)] | rw [if_neg (by first | assumption | omega)])
            try rfl
            try (rw [show asksM e.op 0 = 3 by unfold asksM; repeat (first | rw [if_pos (by omega)] | rw [if_neg (by omega)])]; rfl)
            try (rw [show asksM e.op 0 = 5 by unfold asksM; repeat (first | rw [if_pos (by omega)] | rw [if_neg (by omega)])]; rfl)
          · have h5n := h5; try simp only [dtt, dff, bqi, bqf, bni, bnf, nt1, nf1, nt0, nf0, ne_eq, ilt, ile, rows_length] at h5n
            refine AW.skip ?_
            refine thenN ?_
            refine AW.seq ?_
            refine AW.seq ?_
            refine AW.region ?_
            first | refine AL.go (OpR.plain rfl (r_fieldAddr fo_27_0 (by decide) rfl (nb rfl))) ?_ | refine AL.go (OpR.plain rfl (r_fieldAddrp fo_27_0 (by decide) rfl (nb rfl))) ?_
            first | refine AL.go (OpR.plain rfl (r_load ti_3 rfl rfl rfl (nb rfl))) ?_ | refine AL.go (OpR.plain rfl (r_loadp ti_3 rfl rfl (nb rfl))) ?_
            refine AL.go (OpR.plain rfl (r_bin rfl rfl (nb rfl) rfl (run_int_eql _ _ _))) ?_
            refine AL.go (OpR.plain rfl (r_move rfl (nb rfl) (by rintro _ ⟨⟩))) ?_
            refine AL.ifb (t := 44) rfl (fun h6 => ?_) (fun h6 => ?_)
            · have h6n := h6; try simp only [dtt, dff, bqi, bqf, bni, bnf, nt1, nf1, nt0, nf0, ne_eq, ilt, ile, rows_length] at h6n
              first | refine AL.go (OpR.onb rfl rfl (nb rfl) rfl (h6) (r_fieldAddr fo_27_1 (by decide) rfl (nb rfl))) ?_ | refine AL.go (OpR.onb rfl rfl (nb rfl) rfl (h6) (r_fieldAddrp fo_27_1 (by decide) rfl (nb rfl))) ?_
              first | refine AL.go (OpR.onb rfl rfl (nb rfl) rfl (h6) (r_load ti_9 rfl rfl rfl (nb rfl))) ?_ | refine AL.go (OpR.onb rfl rfl (nb rfl) rfl (h6) (r_loadp ti_9 rfl rfl (nb rfl))) ?_
              refine AL.go (OpR.onb rfl rfl (nb rfl) rfl (h6) (r_bin rfl rfl (nb rfl) rfl (run_str_eql _ _))) ?_
              refine AL.go (OpR.plain rfl (r_pickTb rfl (h6) rfl (nb rfl) (by rintro _ ⟨⟩))) ?_
              refine AL.nil ?_
              refine thenN ?_
              refine AW.condb rfl (fun h7 => ?_) (fun h7 => ?_)
              · have h7n := h7; try simp only [dtt, dff, bqi, bqf, bni, bnf, nt1, nf1, nt0, nf0, ne_eq, ilt, ile, rows_length] at h7n
                refine AW.seq ?_
                refine AW.region ?_
                first | refine AL.go (OpR.plain rfl (r_fieldAddr fo_27_2 (by decide) rfl (nb rfl))) ?_ | refine AL.go (OpR.plain rfl (r_fieldAddrp fo_27_2 (by decide) rfl (nb rfl))) ?_
                first | refine AL.go (OpR.plain rfl (r_load ti_9 rfl rfl rfl (nb rfl))) ?_ | refine AL.go (OpR.plain rfl (r_loadp ti_9 rfl rfl (nb rfl))) ?_
                refine AL.go (OpR.plain rfl (r_assign rfl (nb rfl) (by rintro _ ⟨⟩))) ?_
                refine AL.nil ?_
                refine thenN ?_
                refine AW.ret ?_
                refine thenR ?_
                refine fin_id (.inr rfl) (ends_of rfl (.tmp rfl .nil)) ?_ .nil rfl rfl rfl rfl
                simp only [retA]
                refine A.le_of_eq ?_
                try (exfalso; omega)
                try rw [Ex.pr_eq e]
                try unfold prOp
                repeat (first | rw [if_pos (by first | assumption | omega)] | rw [if_neg (by first | assumption | omega)])
                try rfl
                try (rw [show asksM e.op 0 = 3 by unfold asksM; repeat (first | rw [if_pos (by omega)] | rw [if_neg (by omega)])]; rfl)
                try (rw [show asksM e.op 0 = 5 by unfold asksM; repeat (first | rw [if_pos (by omega)] | rw [if_neg (by omega)])]; rfl)
              · have h7n := h7; try simp only [dtt, dff, bqi, bqf, bni, bnf, nt1, nf1, nt0, nf0, ne_eq, ilt, ile, rows_length] at h7n
                refine AW.skip ?_
                refine thenN ?_
                refine AW.seq ?_
                refine AW.seq ?_
                refine AW.region ?_
                first | refine AL.go (OpR.plain rfl (r_fieldAddr fo_27_0 (by decide) rfl (nb rfl))) ?_ | refine AL.go (OpR.plain rfl (r_fieldAddrp fo_27_0 (by decide) rfl (nb rfl))) ?_
                first | refine AL.go (OpR.plain rfl (r_load ti_3 rfl rfl rfl (nb rfl))) ?_ | refine AL.go (OpR.plain rfl (r_loadp ti_3 rfl rfl (nb rfl))) ?_
                refine AL.go (OpR.plain rfl (r_bin rfl rfl (nb rfl) rfl (run_int_eql _ _ _))) ?_
                refine AL.nil ?_
                refine thenN ?_
                refine AW.condb rfl (fun h8 => ?_) (fun h8 => ?_)
                · have h8n := h8; try simp only [dtt, dff, bqi, bqf, bni, bnf, nt1, nf1, nt0, nf0, ne_eq, ilt, ile, rows_length] at h8n
                  refine AW.seq ?_
                  refine AW.region ?_
                  first | refine AL.go (OpR.plain rfl (r_fieldAddr fo_27_1 (by decide) rfl (nb rfl))) ?_ | refine AL.go (OpR.plain rfl (r_fieldAddrp fo_27_1 (by decide) rfl (nb rfl))) ?_
                  first | refine AL.go (OpR.plain rfl (r_load ti_9 rfl rfl rfl (nb rfl))) ?_ | refine AL.go (OpR.plain rfl (r_loadp ti_9 rfl rfl (nb rfl))) ?_
                  refine AL.go (OpR.plain rfl (r_bin rfl rfl (nb rfl) rfl (run_str_add _ _ (by first | omega | (simp only [rows_length] at *; omega) | (simp only [ByteArray.size_append, sz1, sz2, sz4, sz8, sz12, Int.toNat_zero, Int.toNat_one] at *; omega))))) ?_
                  first | refine AL.go (OpR.plain rfl (r_fieldAddr fo_27_2 (by decide) rfl (nb rfl))) ?_ | refine AL.go (OpR.plain rfl (r_fieldAddrp fo_27_2 (by decide) rfl (nb rfl))) ?_
                  first | refine AL.go (OpR.plain rfl (r_load ti_9 rfl rfl rfl (nb rfl))) ?_ | refine AL.go (OpR.plain rfl (r_loadp ti_9 rfl rfl (nb rfl))) ?_
                  refine AL.go (OpR.plain rfl (r_bin rfl rfl (nb rfl) rfl (run_str_add _ _ (by first | omega | (simp only [rows_length] at *; omega) | (simp only [ByteArray.size_append, sz1, sz2, sz4, sz8, sz12, Int.toNat_zero, Int.toNat_one] at *; omega))))) ?_
                  refine AL.go (OpR.plain rfl (r_assign rfl (nb rfl) (by rintro _ ⟨⟩))) ?_
                  refine AL.nil ?_
                  refine thenN ?_
                  refine AW.ret ?_
                  refine thenR ?_
                  refine fin_id (.inr rfl) (ends_of rfl (.tmp rfl .nil)) ?_ .nil rfl rfl rfl rfl
                  simp only [retA]
                  refine A.le_of_eq ?_
                  try (exfalso; omega)
                  try rw [Ex.pr_eq e]
                  try unfold prOp
                  repeat (first | rw [if_pos (by first | assumption | omega)] | rw [if_neg (by first | assumption | omega)])
                  try rfl
                  try (rw [show asksM e.op 0 = 3 by unfold asksM; repeat (first | rw [if_pos (by omega)] | rw [if_neg (by omega)])]; rfl)
                  try (rw [show asksM e.op 0 = 5 by unfold asksM; repeat (first | rw [if_pos (by omega)] | rw [if_neg (by omega)])]; rfl)
                · have h8n := h8; try simp only [dtt, dff, bqi, bqf, bni, bnf, nt1, nf1, nt0, nf0, ne_eq, ilt, ile, rows_length] at h8n
                  refine AW.skip ?_
                  refine thenN ?_
                  refine AW.seq ?_
                  refine AW.seq ?_
                  refine AW.region ?_
                  first | refine AL.go (OpR.plain rfl (r_fieldAddr fo_27_0 (by decide) rfl (nb rfl))) ?_ | refine AL.go (OpR.plain rfl (r_fieldAddrp fo_27_0 (by decide) rfl (nb rfl))) ?_
                  first | refine AL.go (OpR.plain rfl (r_load ti_3 rfl rfl rfl (nb rfl))) ?_ | refine AL.go (OpR.plain rfl (r_loadp ti_3 rfl rfl (nb rfl))) ?_
                  refine AL.go (OpR.plain rfl (r_bin rfl rfl (nb rfl) rfl (run_int_eql _ _ _))) ?_
                  refine AL.nil ?_
                  refine thenN ?_
                  refine AW.condb rfl (fun h9 => ?_) (fun h9 => ?_)
                  · have h9n := h9; try simp only [dtt, dff, bqi, bqf, bni, bnf, nt1, nf1, nt0, nf0, ne_eq, ilt, ile, rows_length] at h9n
                    refine AW.seq ?_
                    refine AW.region ?_
                    first | refine AL.go (OpR.plain rfl (r_fieldAddr fo_27_5 (by decide) rfl (nb rfl))) ?_ | refine AL.go (OpR.plain rfl (r_fieldAddrp fo_27_5 (by decide) rfl (nb rfl))) ?_
                    first | refine AL.go (OpR.plain rfl (r_load ti_24 rfl rfl (by simp only [loaded, mpc, mpn, if_true, ler, tks, tkz, tkn, dps, dpz, cap, nap, apn, lnc, lnn, zad, Nat.reduceAdd, adz]; rfl) (nb rfl))) ?_ | refine AL.go (OpR.plain rfl (r_loadp ti_24 rfl (by simp only [loaded, mpc, mpn, if_true, ler, tks, tkz, tkn, dps, dpz, cap, nap, apn, lnc, lnn, zad, Nat.reduceAdd, adz]; rfl) (nb rfl))) ?_
                    refine AL.go (OpR.plain rfl (r_callFun (rval_p _ hP.lo hP.hi hP.s) en_19 rfl rfl rfl rfl (.cons (A.le_refl _) .nil) rfl (nb rfl))) ?_
                    refine AL.go (OpR.plain rfl (r_assign rfl (nb rfl) (by rintro _ ⟨⟩))) ?_
                    refine AL.nil ?_
                    refine thenN ?_
                    refine AW.ret ?_
                    refine thenR ?_
                    refine fin_id (.inr rfl) (ends_of rfl (.tmp rfl .nil)) ?_ .nil rfl rfl rfl rfl
                    simp only [retA]
                    refine A.le_of_eq ?_
                    try (exfalso; omega)
                    try rw [Ex.pr_eq e]
                    try unfold prOp
                    repeat (first | rw [if_pos (by first | assumption | omega)] | rw [if_neg (by first | assumption | omega)])
                    try rfl
                    try (rw [show asksM e.op 0 = 3 by unfold asksM; repeat (first | rw [if_pos (by omega)] | rw [if_neg (by omega)])]; rfl)
                    try (rw [show asksM e.op 0 = 5 by unfold asksM; repeat (first | rw [if_pos (by omega)] | rw [if_neg (by omega)])]; rfl)
                  · have h9n := h9; try simp only [dtt, dff, bqi, bqf, bni, bnf, nt1, nf1, nt0, nf0, ne_eq, ilt, ile, rows_length] at h9n
                    refine AW.skip ?_
                    refine thenN ?_
                    refine AW.seq ?_
                    refine AW.seq ?_
                    refine AW.region ?_
                    first | refine AL.go (OpR.plain rfl (r_fieldAddr fo_27_0 (by decide) rfl (nb rfl))) ?_ | refine AL.go (OpR.plain rfl (r_fieldAddrp fo_27_0 (by decide) rfl (nb rfl))) ?_
                    first | refine AL.go (OpR.plain rfl (r_load ti_3 rfl rfl rfl (nb rfl))) ?_ | refine AL.go (OpR.plain rfl (r_loadp ti_3 rfl rfl (nb rfl))) ?_
                    refine AL.go (OpR.plain rfl (r_bin rfl rfl (nb rfl) rfl (run_int_eql _ _ _))) ?_
                    refine AL.nil ?_
                    refine thenN ?_
                    refine AW.condb rfl (fun h10 => ?_) (fun h10 => ?_)
                    · have h10n := h10; try simp only [dtt, dff, bqi, bqf, bni, bnf, nt1, nf1, nt0, nf0, ne_eq, ilt, ile, rows_length] at h10n
                      refine AW.seq ?_
                      refine AW.region ?_
                      refine AL.go (OpR.plain rfl (r_assign rfl (nb rfl) (by rintro _ ⟨⟩; rfl))) ?_
                      refine AL.nil ?_
                      refine thenN ?_
                      refine AW.ret ?_
                      refine thenR ?_
                      refine fin_id (.inr rfl) (ends_of rfl (.tmp rfl .nil)) ?_ .nil rfl rfl rfl rfl
                      simp only [retA]
                      refine A.le_of_eq ?_
                      try (exfalso; omega)
                      try rw [Ex.pr_eq e]
                      try unfold prOp
                      repeat (first | rw [if_pos (by first | assumption | omega)] | rw [if_neg (by first | assumption | omega)])
                      try rfl
                      try (rw [show asksM e.op 0 = 3 by unfold asksM; repeat (first | rw [if_pos (by omega)] | rw [if_neg (by omega)])]; rfl)
                      try (rw [show asksM e.op 0 = 5 by unfold asksM; repeat (first | rw [if_pos (by omega)] | rw [if_neg (by omega)])]; rfl)
                    · have h10n := h10; try simp only [dtt, dff, bqi, bqf, bni, bnf, nt1, nf1, nt0, nf0, ne_eq, ilt, ile, rows_length] at h10n
                      refine AW.skip ?_
                      refine thenN ?_
                      refine AW.seq ?_
                      refine AW.seq ?_
                      refine AW.region ?_
                      first | refine AL.go (OpR.plain rfl (r_fieldAddr fo_27_0 (by decide) rfl (nb rfl))) ?_ | refine AL.go (OpR.plain rfl (r_fieldAddrp fo_27_0 (by decide) rfl (nb rfl))) ?_
                      first | refine AL.go (OpR.plain rfl (r_load ti_3 rfl rfl rfl (nb rfl))) ?_ | refine AL.go (OpR.plain rfl (r_loadp ti_3 rfl rfl (nb rfl))) ?_
                      refine AL.go (OpR.plain rfl (r_bin rfl rfl (nb rfl) rfl (run_int_geq _ _ _))) ?_
                      refine AL.go (OpR.plain rfl (r_move rfl (nb rfl) (by rintro _ ⟨⟩))) ?_
                      refine AL.ifb (t := 72) rfl (fun h11 => ?_) (fun h11 => ?_)
                      · have h11n := h11; try simp only [dtt, dff, bqi, bqf, bni, bnf, nt1, nf1, nt0, nf0, ne_eq, ilt, ile, rows_length] at h11n
                        first | refine AL.go (OpR.onb rfl rfl (nb rfl) rfl (h11) (r_fieldAddr fo_27_0 (by decide) rfl (nb rfl))) ?_ | refine AL.go (OpR.onb rfl rfl (nb rfl) rfl (h11) (r_fieldAddrp fo_27_0 (by decide) rfl (nb rfl))) ?_
                        first | refine AL.go (OpR.onb rfl rfl (nb rfl) rfl (h11) (r_load ti_3 rfl rfl rfl (nb rfl))) ?_ | refine AL.go (OpR.onb rfl rfl (nb rfl) rfl (h11) (r_loadp ti_3 rfl rfl (nb rfl))) ?_
                        refine AL.go (OpR.onb rfl rfl (nb rfl) rfl (h11) (r_bin rfl rfl (nb rfl) rfl (run_int_leq _ _ _))) ?_
                        refine AL.go (OpR.plain rfl (r_pickTb rfl (h11) rfl (nb rfl) (by rintro _ ⟨⟩))) ?_
                        refine AL.nil ?_
                        refine thenN ?_
                        refine AW.condb rfl (fun h12 => ?_) (fun h12 => ?_)
                        · have h12n := h12; try simp only [dtt, dff, bqi, bqf, bni, bnf, nt1, nf1, nt0, nf0, ne_eq, ilt, ile, rows_length] at h12n
                          refine AW.seq ?_
                          refine AW.region ?_
                          refine AL.go (OpR.plain rfl (r_build pl_27 rfl zc_27 rfl rfl (by simp only [fillC, putAt, gez, ges, if_true, and_self, Nat.reduceLeDiff, true_and, tks, tkz, tkn, dps, dpz, cap, nap, apn, lnc, lnn, zad, Nat.reduceAdd, adz]; rfl) (nb rfl))) ?_
                          refine AL.go (OpR.plain rfl (r_alloc 102 ti_27 zc_27 rfl rfl (nb rfl))) ?_
                          refine AL.go (OpR.plain rfl (r_storeN ti_27 rfl rfl rfl rfl rfl (nb rfl) (by simp only [putAt, tks, tkz, tkn, dps, dpz, cap, nap, apn, lnc, lnn, zad, Nat.reduceAdd, adz]; rfl) (by rintro _ ⟨⟩))) ?_
                          refine AL.nil ?_
                          refine thenN ?_
                          refine AW.seq ?_
                          refine AW.seq ?_
                          refine AW.region ?_
                          first | refine AL.go (OpR.plain rfl (r_fieldAddr fo_27_6 (by decide) rfl (nb rfl))) ?_ | refine AL.go (OpR.plain rfl (r_fieldAddrp fo_27_6 (by decide) rfl (nb rfl))) ?_
                          first | refine AL.go (OpR.plain rfl (r_load ti_25 rfl rfl rfl (nb rfl))) ?_ | refine AL.go (OpR.plain rfl (r_loadp ti_25 rfl rfl (nb rfl))) ?_
                          refine AL.go (OpR.plain rfl (r_len un_25 rfl (by first | exact .sl | exact .own | exact .row | exact .nil) (by intro _ h; cases h) (nb rfl) (by rintro _ ⟨⟩))) ?_
                          refine AL.go (OpR.plain rfl (r_bin rfl rfl (nb rfl) rfl (run_int_gtr _ _ _))) ?_
                          refine AL.nil ?_
                          refine thenN ?_
                          refine AW.condb rfl (fun h13 => ?_) (fun h13 => ?_)
                          · have h13n := h13; try simp only [dtt, dff, bqi, bqf, bni, bnf, nt1, nf1, nt0, nf0, ne_eq, ilt, ile, rows_length] at h13n
                            refine AW.region ?_
                            first | refine AL.go (OpR.plain rfl (r_fieldAddr fo_27_6 (by decide) rfl (nb rfl))) ?_ | refine AL.go (OpR.plain rfl (r_fieldAddrp fo_27_6 (by decide) rfl (nb rfl))) ?_
                            first | refine AL.go (OpR.plain rfl (r_load ti_25 rfl rfl rfl (nb rfl))) ?_ | refine AL.go (OpR.plain rfl (r_loadp ti_25 rfl rfl (nb rfl))) ?_
                            refine AL.go (OpR.plain rfl (r_indexAddr un_25 ti_27 rfl (by first | exact .inl rfl | exact .inr ⟨_, rfl⟩) rfl rows_len (by first | omega | (simp only [rows_length] at *; omega) | (simp only [ByteArray.size_append, sz1, sz2, sz4, sz8, sz12, Int.toNat_zero, Int.toNat_one] at *; omega)) (part_row (by omega) (by first | omega | (simp only [rows_length] at *; omega))) (nb rfl))) ?_
                            first | refine AL.go (OpR.plain rfl (r_load ti_27 rfl rfl (by simp only [loaded, mpc, mpn, if_true, ler, tks, tkz, tkn, dps, dpz, cap, nap, apn, lnc, lnn, zad, Nat.reduceAdd, adz]; rfl) (nb rfl))) ?_ | refine AL.go (OpR.plain rfl (r_loadp ti_27 rfl (by simp only [loaded, mpc, mpn, if_true, ler, tks, tkz, tkn, dps, dpz, cap, nap, apn, lnc, lnn, zad, Nat.reduceAdd, adz]; rfl) (nb rfl))) ?_
                            refine AL.go (OpR.plain rfl (r_storeN ti_27 rfl rfl rfl rfl rfl (nb rfl) (by simp only [putAt, tks, tkz, tkn, dps, dpz, cap, nap, apn, lnc, lnn, zad, Nat.reduceAdd, adz]; rfl) (by rintro _ ⟨⟩))) ?_
                            refine AL.nil ?_
                            refine thenN ?_
                            refine AW.seq ?_
                            refine AW.draw ?_
                            first | refine DW.go (OpR.plain rfl (r_fieldAddr fo_27_0 (by decide) rfl (nb rfl))) ?_ | refine DW.go (OpR.plain rfl (r_fieldAddrp fo_27_0 (by decide) rfl (nb rfl))) ?_
                            first | refine DW.go (OpR.plain rfl (r_load ti_3 rfl rfl rfl (nb rfl))) ?_ | refine DW.go (OpR.plain rfl (r_loadp ti_3 rfl rfl (nb rfl))) ?_
                            refine DW.go (OpR.plain rfl (r_callFun (rop_s _) en_17 rfl rfl rfl rfl (.cons (A.le_refl _) .nil) rfl (nb rfl))) ?_
                            refine DW.go (OpR.plain rfl (r_bin rfl rfl (nb rfl) rfl (run_str_add _ _ (by first | omega | (simp only [rows_length] at *; omega) | (simp only [ByteArray.size_append, sz1, sz2, sz4, sz8, sz12, Int.toNat_zero, Int.toNat_one] at *; omega))))) ?_
                            first | refine DW.go (OpR.plain rfl (r_load ti_27 rfl rfl (by simp only [loaded, mpc, mpn, if_true, ler, tks, tkz, tkn, dps, dpz, cap, nap, apn, lnc, lnn, zad, Nat.reduceAdd, adz]; rfl) (nb rfl))) ?_ | refine DW.go (OpR.plain rfl (r_loadp ti_27 rfl (by simp only [loaded, mpc, mpn, if_true, ler, tks, tkz, tkn, dps, dpz, cap, nap, apn, lnc, lnn, zad, Nat.reduceAdd, adz]; rfl) (nb rfl))) ?_
                            refine DW.go (OpR.plain rfl (r_callFun (hx (recs_of (by omega))) en_13 rfl rfl rfl rfl (.cons (by first | exact A.le_refl _ | (rw [part_over (by first | omega | (simp only [rows_length] at *; omega))]; exact A.le_agg (.cons (C.le_refl _) (.cons (C.le_refl _) (.cons (C.le_refl _) (.cons (C.le_refl _) (.cons (C.le_refl _) (.cons (C.le_refl _) (.cons (C.le_refl _) (.cons (C.le_refl _) (.cons C.le_nil .nil))))))))))) .nil) rfl (nb rfl))) ?_
                            refine DW.go (OpR.plain rfl (r_bin rfl rfl (nb rfl) rfl (run_str_add _ _ (by first | omega | (simp only [rows_length] at *; omega) | (simp only [ByteArray.size_append, sz1, sz2, sz4, sz8, sz12, Int.toNat_zero, Int.toNat_one] at *; omega))))) ?_
                            refine DW.go (OpR.plain rfl (r_bin rfl rfl (nb rfl) rfl (run_str_add _ _ (by first | omega | (simp only [rows_length] at *; omega) | (simp only [ByteArray.size_append, sz1, sz2, sz4, sz8, sz12, Int.toNat_zero, Int.toNat_one] at *; omega))))) ?_
                            refine DW.go (OpR.plain rfl (r_assign rfl (nb rfl) (by rintro _ ⟨⟩))) ?_
                            refine DW.fin mixed (by kernel_rfl) (by kernel_rfl) ?_
                            refine thenN ?_
                            refine AW.ret ?_
                            refine thenR ?_
                            refine fin_id (.inr rfl) (ends_of rfl (.tmp rfl .nil)) ?_ .nil rfl rfl rfl rfl
                            simp only [retA]
                            refine A.le_of_eq ?_
                            try (exfalso; omega)
                            try rw [Ex.pr_eq e]
                            try unfold prOp
                            repeat (first | rw [if_pos (by first | assumption | omega)] | rw [if_neg (by first | assumption | omega)])
                            try rfl
                            try (rw [show asksM e.op 0 = 3 by unfold asksM; repeat (first | rw [if_pos (by omega)] | rw [if_neg (by omega)])]; rfl)
                            try (rw [show asksM e.op 0 = 5 by unfold asksM; repeat (first | rw [if_pos (by omega)] | rw [if_neg (by omega)])]; rfl)
                          · have h13n := h13; try simp only [dtt, dff, bqi, bqf, bni, bnf, nt1, nf1, nt0, nf0, ne_eq, ilt, ile, rows_length] at h13n
                            refine AW.skip ?_
                            refine thenN ?_
                            refine AW.seq ?_
                            refine AW.draw ?_
                            first | refine DW.go (OpR.plain rfl (r_fieldAddr fo_27_0 (by decide) rfl (nb rfl))) ?_ | refine DW.go (OpR.plain rfl (r_fieldAddrp fo_27_0 (by decide) rfl (nb rfl))) ?_
                            first | refine DW.go (OpR.plain rfl (r_load ti_3 rfl rfl rfl (nb rfl))) ?_ | refine DW.go (OpR.plain rfl (r_loadp ti_3 rfl rfl (nb rfl))) ?_
                            refine DW.go (OpR.plain rfl (r_callFun (rop_s _) en_17 rfl rfl rfl rfl (.cons (A.le_refl _) .nil) rfl (nb rfl))) ?_
                            refine DW.go (OpR.plain rfl (r_bin rfl rfl (nb rfl) rfl (run_str_add _ _ (by first | omega | (simp only [rows_length] at *; omega) | (simp only [ByteArray.size_append, sz1, sz2, sz4, sz8, sz12, Int.toNat_zero, Int.toNat_one] at *; omega))))) ?_
                            first | refine DW.go (OpR.plain rfl (r_load ti_27 rfl rfl (by simp only [loaded, mpc, mpn, if_true, ler, tks, tkz, tkn, dps, dpz, cap, nap, apn, lnc, lnn, zad, Nat.reduceAdd, adz]; rfl) (nb rfl))) ?_ | refine DW.go (OpR.plain rfl (r_loadp ti_27 rfl (by simp only [loaded, mpc, mpn, if_true, ler, tks, tkz, tkn, dps, dpz, cap, nap, apn, lnc, lnn, zad, Nat.reduceAdd, adz]; rfl) (nb rfl))) ?_
                            refine DW.go (OpR.plain rfl (r_callFun (hx (recs_of (by omega))) en_13 rfl rfl rfl rfl (.cons (by first | exact A.le_refl _ | (rw [part_over (by first | omega | (simp only [rows_length] at *; omega))]; exact A.le_agg (.cons (C.le_refl _) (.cons (C.le_refl _) (.cons (C.le_refl _) (.cons (C.le_refl _) (.cons (C.le_refl _) (.cons (C.le_refl _) (.cons (C.le_refl _) (.cons (C.le_refl _) (.cons C.le_nil .nil))))))))))) .nil) rfl (nb rfl))) ?_
                            refine DW.go (OpR.plain rfl (r_bin rfl rfl (nb rfl) rfl (run_str_add _ _ (by first | omega | (simp only [rows_length] at *; omega) | (simp only [ByteArray.size_append, sz1, sz2, sz4, sz8, sz12, Int.toNat_zero, Int.toNat_one] at *; omega))))) ?_
                            refine DW.go (OpR.plain rfl (r_bin rfl rfl (nb rfl) rfl (run_str_add _ _ (by first | omega | (simp only [rows_length] at *; omega) | (simp only [ByteArray.size_append, sz1, sz2, sz4, sz8, sz12, Int.toNat_zero, Int.toNat_one] at *; omega))))) ?_
                            refine DW.go (OpR.plain rfl (r_assign rfl (nb rfl) (by rintro _ ⟨⟩))) ?_
                            refine DW.fin mixed (by kernel_rfl) (by kernel_rfl) ?_
                            refine thenN ?_
                            refine AW.ret ?_
                            refine thenR ?_
                            refine fin_id (.inr rfl) (ends_of rfl (.tmp rfl .nil)) ?_ .nil rfl rfl rfl rfl
                            simp only [retA]
                            refine A.le_of_eq ?_
                            try (exfalso; omega)
                            try rw [Ex.pr_eq e]
                            try unfold prOp
                            repeat (first | rw [if_pos (by first | assumption | omega)] | rw [if_neg (by first | assumption | omega)])
                            try rfl
                            try (rw [show asksM e.op 0 = 3 by unfold asksM; repeat (first | rw [if_pos (by omega)] | rw [if_neg (by omega)])]; rfl)
                            try (rw [show asksM e.op 0 = 5 by unfold asksM; repeat (first | rw [if_pos (by omega)] | rw [if_neg (by omega)])]; rfl)
                        · have h12n := h12; try simp only [dtt, dff, bqi, bqf, bni, bnf, nt1, nf1, nt0, nf0, ne_eq, ilt, ile, rows_length] at h12n
                          refine AW.skip ?_
                          refine thenN ?_
                          refine AW.seq ?_
                          refine AW.region ?_
                          refine AL.go (OpR.plain rfl (r_assign rfl (nb rfl) (by rintro _ ⟨⟩; rfl))) ?_
                          refine AL.nil ?_
                          refine thenN ?_
                          refine AW.ret ?_
                          refine fin_id (.inr rfl) (ends_of rfl (.tmp rfl .nil)) ?_ .nil rfl rfl rfl rfl
                          simp only [retA]
                          refine A.le_of_eq ?_
                          try (exfalso; omega)
                          try rw [Ex.pr_eq e]
                          try unfold prOp
                          repeat (first | rw [if_pos (by first | assumption | omega)] | rw [if_neg (by first | assumption | omega)])
                          try rfl
                          try (rw [show asksM e.op 0 = 3 by unfold asksM; repeat (first | rw [if_pos (by omega)] | rw [if_neg (by omega)])]; rfl)
                          try (rw [show asksM e.op 0 = 5 by unfold asksM; repeat (first | rw [if_pos (by omega)] | rw [if_neg (by omega)])]; rfl)
                      · have h11n := h11; try simp only [dtt, dff, bqi, bqf, bni, bnf, nt1, nf1, nt0, nf0, ne_eq, ilt, ile, rows_length] at h11n
                        refine AL.go (.off rfl rfl (nb rfl) rfl (by rw [h11]; decide) rfl (nb rfl)) ?_
                        refine AL.go (.off rfl rfl (nb rfl) rfl (by rw [h11]; decide) rfl (nb rfl)) ?_
                        refine AL.go (.off rfl rfl (nb rfl) rfl (by rw [h11]; decide) rfl (nb rfl)) ?_
                        refine AL.go (OpR.plain rfl (r_pickFb rfl (h11) rfl (nb rfl) (by rintro _ ⟨⟩; rfl))) ?_
                        refine AL.nil ?_
                        refine thenN ?_
                        refine AW.condF rfl (rfl) ?_
                        refine AW.skip ?_
                        refine thenN ?_
                        refine AW.seq ?_
                        refine AW.region ?_
                        refine AL.go (OpR.plain rfl (r_assign rfl (nb rfl) (by rintro _ ⟨⟩; rfl))) ?_
                        refine AL.nil ?_
                        refine thenN ?_
                        refine AW.ret ?_
                        refine fin_id (.inr rfl) (ends_of rfl (.tmp rfl .nil)) ?_ .nil rfl rfl rfl rfl
                        simp only [retA]
                        refine A.le_of_eq ?_
                        try (exfalso; omega)
                        try rw [Ex.pr_eq e]
                        try unfold prOp
                        repeat (first | rw [if_pos (by first | assumption | omega)] | rw [if_neg (by first | assumption | omega)])
                        try rfl
                        try (rw [show asksM e.op 0 = 3 by unfold asksM; repeat (first | rw [if_pos (by omega)] | rw [if_neg (by omega)])]; rfl)
                        try (rw [show asksM e.op 0 = 5 by unfold asksM; repeat (first | rw [if_pos (by omega)] | rw [if_neg (by omega)])]; rfl)
            · have h6n := h6; try simp only [dtt, dff, bqi, bqf, bni, bnf, nt1, nf1, nt0, nf0, ne_eq, ilt, ile, rows_length] at h6n
              refine AL.go (.off rfl rfl (nb rfl) rfl (by rw [h6]; decide) rfl (nb rfl)) ?_
              refine AL.go (.off rfl rfl (nb rfl) rfl (by rw [h6]; decide) rfl (nb rfl)) ?_
              refine AL.go (.off rfl rfl (nb rfl) rfl (by rw [h6]; decide) rfl (nb rfl)) ?_
              refine AL.go (OpR.plain rfl (r_pickFb rfl (h6) rfl (nb rfl) (by rintro _ ⟨⟩; rfl))) ?_
              refine AL.nil ?_
              refine thenN ?_
              refine AW.condF rfl (rfl) ?_
              refine AW.skip ?_
              refine thenN ?_
              refine AW.seq ?_
              refine AW.seq ?_
              refine AW.region ?_
              first | refine AL.go (OpR.plain rfl (r_fieldAddr fo_27_0 (by decide) rfl (nb rfl))) ?_ | refine AL.go (OpR.plain rfl (r_fieldAddrp fo_27_0 (by decide) rfl (nb rfl))) ?_
              first | refine AL.go (OpR.plain rfl (r_load ti_3 rfl rfl rfl (nb rfl))) ?_ | refine AL.go (OpR.plain rfl (r_loadp ti_3 rfl rfl (nb rfl))) ?_
              refine AL.go (OpR.plain rfl (r_bin rfl rfl (nb rfl) rfl (run_int_eql _ _ _))) ?_
              refine AL.nil ?_
              refine thenN ?_
              refine AW.condb rfl (fun h14 => ?_) (fun h14 => ?_)
              · have h14n := h14; try simp only [dtt, dff, bqi, bqf, bni, bnf, nt1, nf1, nt0, nf0, ne_eq, ilt, ile, rows_length] at h14n
                refine AW.seq ?_
                refine AW.region ?_
                first | refine AL.go (OpR.plain rfl (r_fieldAddr fo_27_1 (by decide) rfl (nb rfl))) ?_ | refine AL.go (OpR.plain rfl (r_fieldAddrp fo_27_1 (by decide) rfl (nb rfl))) ?_
                first | refine AL.go (OpR.plain rfl (r_load ti_9 rfl rfl rfl (nb rfl))) ?_ | refine AL.go (OpR.plain rfl (r_loadp ti_9 rfl rfl (nb rfl))) ?_
                refine AL.go (OpR.plain rfl (r_bin rfl rfl (nb rfl) rfl (run_str_add _ _ (by first | omega | (simp only [rows_length] at *; omega) | (simp only [ByteArray.size_append, sz1, sz2, sz4, sz8, sz12, Int.toNat_zero, Int.toNat_one] at *; omega))))) ?_
                first | refine AL.go (OpR.plain rfl (r_fieldAddr fo_27_2 (by decide) rfl (nb rfl))) ?_ | refine AL.go (OpR.plain rfl (r_fieldAddrp fo_27_2 (by decide) rfl (nb rfl))) ?_
                first | refine AL.go (OpR.plain rfl (r_load ti_9 rfl rfl rfl (nb rfl))) ?_ | refine AL.go (OpR.plain rfl (r_loadp ti_9 rfl rfl (nb rfl))) ?_
                refine AL.go (OpR.plain rfl (r_bin rfl rfl (nb rfl) rfl (run_str_add _ _ (by first | omega | (simp only [rows_length] at *; omega) | (simp only [ByteArray.size_append, sz1, sz2, sz4, sz8, sz12, Int.toNat_zero, Int.toNat_one] at *; omega))))) ?_
                refine AL.go (OpR.plain rfl (r_assign rfl (nb rfl) (by rintro _ ⟨⟩))) ?_
                refine AL.nil ?_
                refine thenN ?_
                refine AW.ret ?_
                refine thenR ?_
                refine fin_id (.inr rfl) (ends_of rfl (.tmp rfl .nil)) ?_ .nil rfl rfl rfl rfl
                simp only [retA]
                refine A.le_of_eq ?_
                try (exfalso; omega)
                try rw [Ex.pr_eq e]
                try unfold prOp
                repeat (first | rw [if_pos (by first | assumption | omega)] | rw [if_neg (by first | assumption | omega)])
                try rfl
                try (rw [show asksM e.op 0 = 3 by unfold asksM; repeat (first | rw [if_pos (by omega)] | rw [if_neg (by omega)])]; rfl)
                try (rw [show asksM e.op 0 = 5 by unfold asksM; repeat (first | rw [if_pos (by omega)] | rw [if_neg (by omega)])]; rfl)
              · have h14n := h14; try simp only [dtt, dff, bqi, bqf, bni, bnf, nt1, nf1, nt0, nf0, ne_eq, ilt, ile, rows_length] at h14n
                refine AW.skip ?_
                refine thenN ?_
                refine AW.seq ?_
                refine AW.seq ?_
                refine AW.region ?_
                first | refine AL.go (OpR.plain rfl (r_fieldAddr fo_27_0 (by decide) rfl (nb rfl))) ?_ | refine AL.go (OpR.plain rfl (r_fieldAddrp fo_27_0 (by decide) rfl (nb rfl))) ?_
                first | refine AL.go (OpR.plain rfl (r_load ti_3 rfl rfl rfl (nb rfl))) ?_ | refine AL.go (OpR.plain rfl (r_loadp ti_3 rfl rfl (nb rfl))) ?_
                refine AL.go (OpR.plain rfl (r_bin rfl rfl (nb rfl) rfl (run_int_eql _ _ _))) ?_
                refine AL.nil ?_
                refine thenN ?_
                refine AW.condb rfl (fun h15 => ?_) (fun h15 => ?_)
                · have h15n := h15; try simp only [dtt, dff, bqi, bqf, bni, bnf, nt1, nf1, nt0, nf0, ne_eq, ilt, ile, rows_length] at h15n
                  refine AW.seq ?_
                  refine AW.region ?_
                  first | refine AL.go (OpR.plain rfl (r_fieldAddr fo_27_5 (by decide) rfl (nb rfl))) ?_ | refine AL.go (OpR.plain rfl (r_fieldAddrp fo_27_5 (by decide) rfl (nb rfl))) ?_
                  first | refine AL.go (OpR.plain rfl (r_load ti_24 rfl rfl (by simp only [loaded, mpc, mpn, if_true, ler, tks, tkz, tkn, dps, dpz, cap, nap, apn, lnc, lnn, zad, Nat.reduceAdd, adz]; rfl) (nb rfl))) ?_ | refine AL.go (OpR.plain rfl (r_loadp ti_24 rfl (by simp only [loaded, mpc, mpn, if_true, ler, tks, tkz, tkn, dps, dpz, cap, nap, apn, lnc, lnn, zad, Nat.reduceAdd, adz]; rfl) (nb rfl))) ?_
                  refine AL.go (OpR.plain rfl (r_callFun (rval_p _ hP.lo hP.hi hP.s) en_19 rfl rfl rfl rfl (.cons (A.le_refl _) .nil) rfl (nb rfl))) ?_
                  refine AL.go (OpR.plain rfl (r_assign rfl (nb rfl) (by rintro _ ⟨⟩))) ?_
                  refine AL.nil ?_
                  refine thenN ?_
                  refine AW.ret ?_
                  refine thenR ?_
                  refine fin_id (.inr rfl) (ends_of rfl (.tmp rfl .nil)) ?_ .nil rfl rfl rfl rfl
                  simp only [retA]
                  refine A.le_of_eq ?_
                  try (exfalso; omega)
                  try rw [Ex.pr_eq e]
                  try unfold prOp
                  repeat (first | rw [if_pos (by first | assumption | omega)] | rw [if_neg (by first | assumption | omega)])
                  try rfl
                  try (rw [show asksM e.op 0 = 3 by unfold asksM; repeat (first | rw [if_pos (by omega)] | rw [if_neg (by omega)])]; rfl)
                  try (rw [show asksM e.op 0 = 5 by unfold asksM; repeat (first | rw [if_pos (by omega)] | rw [if_neg (by omega)])]; rfl)
                · have h15n := h15; try simp only [dtt, dff, bqi, bqf, bni, bnf, nt1, nf1, nt0, nf0, ne_eq, ilt, ile, rows_length] at h15n
                  refine AW.skip ?_
                  refine thenN ?_
                  refine AW.seq ?_
                  refine AW.seq ?_
                  refine AW.region ?_
                  first | refine AL.go (OpR.plain rfl (r_fieldAddr fo_27_0 (by decide) rfl (nb rfl))) ?_ | refine AL.go (OpR.plain rfl (r_fieldAddrp fo_27_0 (by decide) rfl (nb rfl))) ?_
                  first | refine AL.go (OpR.plain rfl (r_load ti_3 rfl rfl rfl (nb rfl))) ?_ | refine AL.go (OpR.plain rfl (r_loadp ti_3 rfl rfl (nb rfl))) ?_
                  refine AL.go (OpR.plain rfl (r_bin rfl rfl (nb rfl) rfl (run_int_eql _ _ _))) ?_
                  refine AL.nil ?_
                  refine thenN ?_
                  refine AW.condb rfl (fun h16 => ?_) (fun h16 => ?_)
                  · have h16n := h16; try simp only [dtt, dff, bqi, bqf, bni, bnf, nt1, nf1, nt0, nf0, ne_eq, ilt, ile, rows_length] at h16n
                    refine AW.seq ?_
                    refine AW.region ?_
                    refine AL.go (OpR.plain rfl (r_assign rfl (nb rfl) (by rintro _ ⟨⟩; rfl))) ?_
                    refine AL.nil ?_
                    refine thenN ?_
                    refine AW.ret ?_
                    refine thenR ?_
                    refine fin_id (.inr rfl) (ends_of rfl (.tmp rfl .nil)) ?_ .nil rfl rfl rfl rfl
                    simp only [retA]
                    refine A.le_of_eq ?_
                    try (exfalso; omega)
                    try rw [Ex.pr_eq e]
                    try unfold prOp
                    repeat (first | rw [if_pos (by first | assumption | omega)] | rw [if_neg (by first | assumption | omega)])
                    try rfl
                    try (rw [show asksM e.op 0 = 3 by unfold asksM; repeat (first | rw [if_pos (by omega)] | rw [if_neg (by omega)])]; rfl)
                    try (rw [show asksM e.op 0 = 5 by unfold asksM; repeat (first | rw [if_pos (by omega)] | rw [if_neg (by omega)])]; rfl)
                  · have h16n := h16; try simp only [dtt, dff, bqi, bqf, bni, bnf, nt1, nf1, nt0, nf0, ne_eq, ilt, ile, rows_length] at h16n
                    refine AW.skip ?_
                    refine thenN ?_
                    refine AW.seq ?_
                    refine AW.seq ?_
                    refine AW.region ?_
                    first | refine AL.go (OpR.plain rfl (r_fieldAddr fo_27_0 (by decide) rfl (nb rfl))) ?_ | refine AL.go (OpR.plain rfl (r_fieldAddrp fo_27_0 (by decide) rfl (nb rfl))) ?_
                    first | refine AL.go (OpR.plain rfl (r_load ti_3 rfl rfl rfl (nb rfl))) ?_ | refine AL.go (OpR.plain rfl (r_loadp ti_3 rfl rfl (nb rfl))) ?_
                    refine AL.go (OpR.plain rfl (r_bin rfl rfl (nb rfl) rfl (run_int_geq _ _ _))) ?_
                    refine AL.go (OpR.plain rfl (r_move rfl (nb rfl) (by rintro _ ⟨⟩))) ?_
                    refine AL.ifb (t := 72) rfl (fun h17 => ?_) (fun h17 => ?_)
                    · have h17n := h17; try simp only [dtt, dff, bqi, bqf, bni, bnf, nt1, nf1, nt0, nf0, ne_eq, ilt, ile, rows_length] at h17n
                      first | refine AL.go (OpR.onb rfl rfl (nb rfl) rfl (h17) (r_fieldAddr fo_27_0 (by decide) rfl (nb rfl))) ?_ | refine AL.go (OpR.onb rfl rfl (nb rfl) rfl (h17) (r_fieldAddrp fo_27_0 (by decide) rfl (nb rfl))) ?_
                      first | refine AL.go (OpR.onb rfl rfl (nb rfl) rfl (h17) (r_load ti_3 rfl rfl rfl (nb rfl))) ?_ | refine AL.go (OpR.onb rfl rfl (nb rfl) rfl (h17) (r_loadp ti_3 rfl rfl (nb rfl))) ?_
                      refine AL.go (OpR.onb rfl rfl (nb rfl) rfl (h17) (r_bin rfl rfl (nb rfl) rfl (run_int_leq _ _ _))) ?_
                      refine AL.go (OpR.plain rfl (r_pickTb rfl (h17) rfl (nb rfl) (by rintro _ ⟨⟩))) ?_
                      refine AL.nil ?_
                      refine thenN ?_
                      refine AW.condb rfl (fun h18 => ?_) (fun h18 => ?_)
                      · have h18n := h18; try simp only [dtt, dff, bqi, bqf, bni, bnf, nt1, nf1, nt0, nf0, ne_eq, ilt, ile, rows_length] at h18n
                        refine AW.seq ?_
                        refine AW.region ?_
                        refine AL.go (OpR.plain rfl (r_build pl_27 rfl zc_27 rfl rfl (by simp only [fillC, putAt, gez, ges, if_true, and_self, Nat.reduceLeDiff, true_and, tks, tkz, tkn, dps, dpz, cap, nap, apn, lnc, lnn, zad, Nat.reduceAdd, adz]; rfl) (nb rfl))) ?_
                        refine AL.go (OpR.plain rfl (r_alloc 102 ti_27 zc_27 rfl rfl (nb rfl))) ?_
                        refine AL.go (OpR.plain rfl (r_storeN ti_27 rfl rfl rfl rfl rfl (nb rfl) (by simp only [putAt, tks, tkz, tkn, dps, dpz, cap, nap, apn, lnc, lnn, zad, Nat.reduceAdd, adz]; rfl) (by rintro _ ⟨⟩))) ?_
                        refine AL.nil ?_
                        refine thenN ?_
                        refine AW.seq ?_
                        refine AW.seq ?_
                        refine AW.region ?_
                        first | refine AL.go (OpR.plain rfl (r_fieldAddr fo_27_6 (by decide) rfl (nb rfl))) ?_ | refine AL.go (OpR.plain rfl (r_fieldAddrp fo_27_6 (by decide) rfl (nb rfl))) ?_
                        first | refine AL.go (OpR.plain rfl (r_load ti_25 rfl rfl rfl (nb rfl))) ?_ | refine AL.go (OpR.plain rfl (r_loadp ti_25 rfl rfl (nb rfl))) ?_
                        refine AL.go (OpR.plain rfl (r_len un_25 rfl (by first | exact .sl | exact .own | exact .row | exact .nil) (by intro _ h; cases h) (nb rfl) (by rintro _ ⟨⟩))) ?_
                        refine AL.go (OpR.plain rfl (r_bin rfl rfl (nb rfl) rfl (run_int_gtr _ _ _))) ?_
                        refine AL.nil ?_
                        refine thenN ?_
                        refine AW.condb rfl (fun h19 => ?_) (fun h19 => ?_)
                        · have h19n := h19; try simp only [dtt, dff, bqi, bqf, bni, bnf, nt1, nf1, nt0, nf0, ne_eq, ilt, ile, rows_length] at h19n
                          refine AW.region ?_
                          first | refine AL.go (OpR.plain rfl (r_fieldAddr fo_27_6 (by decide) rfl (nb rfl))) ?_ | refine AL.go (OpR.plain rfl (r_fieldAddrp fo_27_6 (by decide) rfl (nb rfl))) ?_
                          first | refine AL.go (OpR.plain rfl (r_load ti_25 rfl rfl rfl (nb rfl))) ?_ | refine AL.go (OpR.plain rfl (r_loadp ti_25 rfl rfl (nb rfl))) ?_
                          refine AL.go (OpR.plain rfl (r_indexAddr un_25 ti_27 rfl (by first | exact .inl rfl | exact .inr ⟨_, rfl⟩) rfl rows_len (by first | omega | (simp only [rows_length] at *; omega) | (simp only [ByteArray.size_append, sz1, sz2, sz4, sz8, sz12, Int.toNat_zero, Int.toNat_one] at *; omega)) (part_row (by omega) (by first | omega | (simp only [rows_length] at *; omega))) (nb rfl))) ?_
                          first | refine AL.go (OpR.plain rfl (r_load ti_27 rfl rfl (by simp only [loaded, mpc, mpn, if_true, ler, tks, tkz, tkn, dps, dpz, cap, nap, apn, lnc, lnn, zad, Nat.reduceAdd, adz]; rfl) (nb rfl))) ?_ | refine AL.go (OpR.plain rfl (r_loadp ti_27 rfl (by simp only [loaded, mpc, mpn, if_true, ler, tks, tkz, tkn, dps, dpz, cap, nap, apn, lnc, lnn, zad, Nat.reduceAdd, adz]; rfl) (nb rfl))) ?_
                          refine AL.go (OpR.plain rfl (r_storeN ti_27 rfl rfl rfl rfl rfl (nb rfl) (by simp only [putAt, tks, tkz, tkn, dps, dpz, cap, nap, apn, lnc, lnn, zad, Nat.reduceAdd, adz]; rfl) (by rintro _ ⟨⟩))) ?_
                          refine AL.nil ?_
                          refine thenN ?_
                          refine AW.seq ?_
                          refine AW.draw ?_
                          first | refine DW.go (OpR.plain rfl (r_fieldAddr fo_27_0 (by decide) rfl (nb rfl))) ?_ | refine DW.go (OpR.plain rfl (r_fieldAddrp fo_27_0 (by decide) rfl (nb rfl))) ?_
                          first | refine DW.go (OpR.plain rfl (r_load ti_3 rfl rfl rfl (nb rfl))) ?_ | refine DW.go (OpR.plain rfl (r_loadp ti_3 rfl rfl (nb rfl))) ?_
                          refine DW.go (OpR.plain rfl (r_callFun (rop_s _) en_17 rfl rfl rfl rfl (.cons (A.le_refl _) .nil) rfl (nb rfl))) ?_
                          refine DW.go (OpR.plain rfl (r_bin rfl rfl (nb rfl) rfl (run_str_add _ _ (by first | omega | (simp only [rows_length] at *; omega) | (simp only [ByteArray.size_append, sz1, sz2, sz4, sz8, sz12, Int.toNat_zero, Int.toNat_one] at *; omega))))) ?_
                          first | refine DW.go (OpR.plain rfl (r_load ti_27 rfl rfl (by simp only [loaded, mpc, mpn, if_true, ler, tks, tkz, tkn, dps, dpz, cap, nap, apn, lnc, lnn, zad, Nat.reduceAdd, adz]; rfl) (nb rfl))) ?_ | refine DW.go (OpR.plain rfl (r_loadp ti_27 rfl (by simp only [loaded, mpc, mpn, if_true, ler, tks, tkz, tkn, dps, dpz, cap, nap, apn, lnc, lnn, zad, Nat.reduceAdd, adz]; rfl) (nb rfl))) ?_
                          refine DW.go (OpR.plain rfl (r_callFun (hx (recs_of (by omega))) en_13 rfl rfl rfl rfl (.cons (by first | exact A.le_refl _ | (rw [part_over (by first | omega | (simp only [rows_length] at *; omega))]; exact A.le_agg (.cons (C.le_refl _) (.cons (C.le_refl _) (.cons (C.le_refl _) (.cons (C.le_refl _) (.cons (C.le_refl _) (.cons (C.le_refl _) (.cons (C.le_refl _) (.cons (C.le_refl _) (.cons C.le_nil .nil))))))))))) .nil) rfl (nb rfl))) ?_
                          refine DW.go (OpR.plain rfl (r_bin rfl rfl (nb rfl) rfl (run_str_add _ _ (by first | omega | (simp only [rows_length] at *; omega) | (simp only [ByteArray.size_append, sz1, sz2, sz4, sz8, sz12, Int.toNat_zero, Int.toNat_one] at *; omega))))) ?_
                          refine DW.go (OpR.plain rfl (r_bin rfl rfl (nb rfl) rfl (run_str_add _ _ (by first | omega | (simp only [rows_length] at *; omega) | (simp only [ByteArray.size_append, sz1, sz2, sz4, sz8, sz12, Int.toNat_zero, Int.toNat_one] at *; omega))))) ?_
                          refine DW.go (OpR.plain rfl (r_assign rfl (nb rfl) (by rintro _ ⟨⟩))) ?_
                          refine DW.fin mixed (by kernel_rfl) (by kernel_rfl) ?_
                          refine thenN ?_
                          refine AW.ret ?_
                          refine thenR ?_
                          refine fin_id (.inr rfl) (ends_of rfl (.tmp rfl .nil)) ?_ .nil rfl rfl rfl rfl
                          simp only [retA]
                          refine A.le_of_eq ?_
                          try (exfalso; omega)
                          try rw [Ex.pr_eq e]
                          try unfold prOp
                          repeat (first | rw [if_pos (by first | assumption | omega)] | rw [if_neg (by first | assumption | omega)])
                          try rfl
                          try (rw [show asksM e.op 0 = 3 by unfold asksM; repeat (first | rw [if_pos (by omega)] | rw [if_neg (by omega)])]; rfl)
                          try (rw [show asksM e.op 0 = 5 by unfold asksM; repeat (first | rw [if_pos (by omega)] | rw [if_neg (by omega)])]; rfl)
                        · have h19n := h19; try simp only [dtt, dff, bqi, bqf, bni, bnf, nt1, nf1, nt0, nf0, ne_eq, ilt, ile, rows_length] at h19n
                          refine AW.skip ?_
                          refine thenN ?_
                          refine AW.seq ?_
                          refine AW.draw ?_
                          first | refine DW.go (OpR.plain rfl (r_fieldAddr fo_27_0 (by decide) rfl (nb rfl))) ?_ | refine DW.go (OpR.plain rfl (r_fieldAddrp fo_27_0 (by decide) rfl (nb rfl))) ?_
                          first | refine DW.go (OpR.plain rfl (r_load ti_3 rfl rfl rfl (nb rfl))) ?_ | refine DW.go (OpR.plain rfl (r_loadp ti_3 rfl rfl (nb rfl))) ?_
                          refine DW.go (OpR.plain rfl (r_callFun (rop_s _) en_17 rfl rfl rfl rfl (.cons (A.le_refl _) .nil) rfl (nb rfl))) ?_
                          refine DW.go (OpR.plain rfl (r_bin rfl rfl (nb rfl) rfl (run_str_add _ _ (by first | omega | (simp only [rows_length] at *; omega) | (simp only [ByteArray.size_append, sz1, sz2, sz4, sz8, sz12, Int.toNat_zero, Int.toNat_one] at *; omega))))) ?_
                          first | refine DW.go (OpR.plain rfl (r_load ti_27 rfl rfl (by simp only [loaded, mpc, mpn, if_true, ler, tks, tkz, tkn, dps, dpz, cap, nap, apn, lnc, lnn, zad, Nat.reduceAdd, adz]; rfl) (nb rfl))) ?_ | refine DW.go (OpR.plain rfl (r_loadp ti_27 rfl (by simp only [loaded, mpc, mpn, if_true, ler, tks, tkz, tkn, dps, dpz, cap, nap, apn, lnc, lnn, zad, Nat.reduceAdd, adz]; rfl) (nb rfl))) ?_
                          refine DW.go (OpR.plain rfl (r_callFun (hx (recs_of (by omega))) en_13 rfl rfl rfl rfl (.cons (by first | exact A.le_refl _ | (rw [part_over (by first | omega | (simp only [rows_length] at *; omega))]; exact A.le_agg (.cons (C.le_refl _) (.cons (C.le_refl _) (.cons (C.le_refl _) (.cons (C.le_refl _) (.cons (C.le_refl _) (.cons (C.le_refl _) (.cons (C.le_refl _) (.cons (C.le_refl _) (.cons C.le_nil .nil))))))))))) .nil) rfl (nb rfl))) ?_
                          refine DW.go (OpR.plain rfl (r_bin rfl rfl (nb rfl) rfl (run_str_add _ _ (by first | omega | (simp only [rows_length] at *; omega) | (simp only [ByteArray.size_append, sz1, sz2, sz4, sz8, sz12, Int.toNat_zero, Int.toNat_one] at *; omega))))) ?_
                          refine DW.go (OpR.plain rfl (r_bin rfl rfl (nb rfl) rfl (run_str_add _ _ (by first | omega | (simp only [rows_length] at *; omega) | (simp only [ByteArray.size_append, sz1, sz2, sz4, sz8, sz12, Int.toNat_zero, Int.toNat_one] at *; omega))))) ?_
                          refine DW.go (OpR.plain rfl (r_assign rfl (nb rfl) (by rintro _ ⟨⟩))) ?_
                          refine DW.fin mixed (by kernel_rfl) (by kernel_rfl) ?_
                          refine thenN ?_
                          refine AW.ret ?_
                          refine thenR ?_
                          refine fin_id (.inr rfl) (ends_of rfl (.tmp rfl .nil)) ?_ .nil rfl rfl rfl rfl
                          simp only [retA]
                          refine A.le_of_eq ?_
                          try (exfalso; omega)
                          try rw [Ex.pr_eq e]
                          try unfold prOp
                          repeat (first | rw [if_pos (by first | assumption | omega)] | rw [if_neg (by first | assumption | omega)])
                          try rfl
                          try (rw [show asksM e.op 0 = 3 by unfold asksM; repeat (first | rw [if_pos (by omega)] | rw [if_neg (by omega)])]; rfl)
                          try (rw [show asksM e.op 0 = 5 by unfold asksM; repeat (first | rw [if_pos (by omega)] | rw [if_neg (by omega)])]; rfl)
                      · have h18n := h18; try simp only [dtt, dff, bqi, bqf, bni, bnf, nt1, nf1, nt0, nf0, ne_eq, ilt, ile, rows_length] at h18n
                        refine AW.skip ?_
                        refine thenN ?_
                        refine AW.seq ?_
                        refine AW.region ?_
                        refine AL.go (OpR.plain rfl (r_assign rfl (nb rfl) (by rintro _ ⟨⟩; rfl))) ?_
                        refine AL.nil ?_
                        refine thenN ?_
                        refine AW.ret ?_
                        refine fin_id (.inr rfl) (ends_of rfl (.tmp rfl .nil)) ?_ .nil rfl rfl rfl rfl
                        simp only [retA]
                        refine A.le_of_eq ?_
                        try (exfalso; omega)
                        try rw [Ex.pr_eq e]
                        try unfold prOp
                        repeat (first | rw [if_pos (by first | assumption | omega)] | rw [if_neg (by first | assumption | omega)])
                        try rfl
                        try (rw [show asksM e.op 0 = 3 by unfold asksM; repeat (first | rw [if_pos (by omega)] | rw [if_neg (by omega)])]; rfl)
                        try (rw [show asksM e.op 0 = 5 by unfold asksM; repeat (first | rw [if_pos (by omega)] | rw [if_neg (by omega)])]; rfl)
                    · have h17n := h17; try simp only [dtt, dff, bqi, bqf, bni, bnf, nt1, nf1, nt0, nf0, ne_eq, ilt, ile, rows_length] at h17n
                      refine AL.go (.off rfl rfl (nb rfl) rfl (by rw [h17]; decide) rfl (nb rfl)) ?_
                      refine AL.go (.off rfl rfl (nb rfl) rfl (by rw [h17]; decide) rfl (nb rfl)) ?_
                      refine AL.go (.off rfl rfl (nb rfl) rfl (by rw [h17]; decide) rfl (nb rfl)) ?_
                      refine AL.go (OpR.plain rfl (r_pickFb rfl (h17) rfl (nb rfl) (by rintro _ ⟨⟩; rfl))) ?_
                      refine AL.nil ?_
                      refine thenN ?_
                      refine AW.condF rfl (rfl) ?_
                      refine AW.skip ?_
                      refine thenN ?_
                      refine AW.seq ?_
                      refine AW.region ?_
                      refine AL.go (OpR.plain rfl (r_assign rfl (nb rfl) (by rintro _ ⟨⟩; rfl))) ?_
                      refine AL.nil ?_
                      refine thenN ?_
                      refine AW.ret ?_
                      refine fin_id (.inr rfl) (ends_of rfl (.tmp rfl .nil)) ?_ .nil rfl rfl rfl rfl
                      simp only [retA]
                      refine A.le_of_eq ?_
                      try (exfalso; omega)
                      try rw [Ex.pr_eq e]
                      try unfold prOp
                      repeat (first | rw [if_pos (by first | assumption | omega)] | rw [if_neg (by first | assumption | omega)])
                      try rfl
                      try (rw [show asksM e.op 0 = 3 by unfold asksM; repeat (first | rw [if_pos (by omega)] | rw [if_neg (by omega)])]; rfl)
                      try (rw [show asksM e.op 0 = 5 by unfold asksM; repeat (first | rw [if_pos (by omega)] | rw [if_neg (by omega)])]; rfl)
  · have h1n := h1; try simp only [dtt, dff, bqi, bqf, bni, bnf, nt1, nf1, nt0, nf0, ne_eq, ilt, ile, rows_length] at h1n
    refine AL.go (.off rfl rfl (nb rfl) rfl (by rw [h1]; decide) rfl (nb rfl)) ?_
    refine AL.go (.off rfl rfl (nb rfl) rfl (by rw [h1]; decide) rfl (nb rfl)) ?_
    refine AL.go (.off rfl rfl (nb rfl) rfl (by rw [h1]; decide) rfl (nb rfl)) ?_
    refine AL.go (OpR.plain rfl (r_pickFb rfl (h1) rfl (nb rfl) (by rintro _ ⟨⟩; rfl))) ?_
    refine AL.nil ?_
    refine thenN ?_
    refine AW.condF rfl (rfl) ?_
    refine AW.skip ?_
    refine thenN ?_
    refine AW.seq ?_
    refine AW.seq ?_
    refine AW.region ?_
    first | refine AL.go (OpR.plain rfl (r_fieldAddr fo_27_0 (by decide) rfl (nb rfl))) ?_ | refine AL.go (OpR.plain rfl (r_fieldAddrp fo_27_0 (by decide) rfl (nb rfl))) ?_
    first | refine AL.go (OpR.plain rfl (r_load ti_3 rfl rfl rfl (nb rfl))) ?_ | refine AL.go (OpR.plain rfl (r_loadp ti_3 rfl rfl (nb rfl))) ?_
    refine AL.go (OpR.plain rfl (r_bin rfl rfl (nb rfl) rfl (run_int_eql _ _ _))) ?_
    refine AL.nil ?_
    refine thenN ?_
    refine AW.condb rfl (fun h20 => ?_) (fun h20 => ?_)
    · have h20n := h20; try simp only [dtt, dff, bqi, bqf, bni, bnf, nt1, nf1, nt0, nf0, ne_eq, ilt, ile, rows_length] at h20n
      refine AW.seq ?_
      refine AW.region ?_
      first | refine AL.go (OpR.plain rfl (r_load ti_27 rfl rfl (by simp only [loaded, mpc, mpn, if_true, ler, tks, tkz, tkn, dps, dpz, cap, nap, apn, lnc, lnn, zad, Nat.reduceAdd, adz]; rfl) (nb rfl))) ?_ | refine AL.go (OpR.plain rfl (r_loadp ti_27 rfl (by simp only [loaded, mpc, mpn, if_true, ler, tks, tkz, tkn, dps, dpz, cap, nap, apn, lnc, lnn, zad, Nat.reduceAdd, adz]; rfl) (nb rfl))) ?_
      refine AL.go (OpR.plain rfl (r_callFun (rside_s e 0 (by decide) (by decide) (hx (recs_of (by omega))) hP.x) en_30 rfl rfl rfl rfl (.cons (A.le_refl _) (.cons (A.le_refl _) .nil)) rfl (nb rfl))) ?_
      refine AL.go (OpR.plain rfl (r_bin rfl rfl (nb rfl) rfl (run_str_add _ _ (by first | omega | (simp only [rows_length] at *; omega) | (simp only [ByteArray.size_append, sz1, sz2, sz4, sz8, sz12, Int.toNat_zero, Int.toNat_one] at *; omega))))) ?_
      refine AL.go (OpR.plain rfl (r_assign rfl (nb rfl) (by rintro _ ⟨⟩))) ?_
      refine AL.nil ?_
      refine thenN ?_
      refine AW.ret ?_
      refine thenR ?_
      refine fin_id (.inr rfl) (ends_of rfl (.tmp rfl .nil)) ?_ .nil rfl rfl rfl rfl
      simp only [retA]
      refine A.le_of_eq ?_
      try (exfalso; omega)
      try rw [Ex.pr_eq e]
      try unfold prOp
      repeat (first | rw [if_pos (by first | assumption | omega)] | rw [if_neg (by first | assumption | omega)])
      try rfl
      try (rw [show asksM e.op 0 = 3 by unfold asksM; repeat (first | rw [if_pos (by omega)] | rw [if_neg (by omega)])]; rfl)
      try (rw [show asksM e.op 0 = 5 by unfold asksM; repeat (first | rw [if_pos (by omega)] | rw [if_neg (by omega)])]; rfl)
    · have h20n := h20; try simp only [dtt, dff, bqi, bqf, bni, bnf, nt1, nf1, nt0, nf0, ne_eq, ilt, ile, rows_length] at h20n
      refine AW.skip ?_
      refine thenN ?_
      refine AW.seq ?_
      refine AW.seq ?_
      refine AW.region ?_
      first | refine AL.go (OpR.plain rfl (r_fieldAddr fo_27_0 (by decide) rfl (nb rfl))) ?_ | refine AL.go (OpR.plain rfl (r_fieldAddrp fo_27_0 (by decide) rfl (nb rfl))) ?_
      first | refine AL.go (OpR.plain rfl (r_load ti_3 rfl rfl rfl (nb rfl))) ?_ | refine AL.go (OpR.plain rfl (r_loadp ti_3 rfl rfl (nb rfl))) ?_
      refine AL.go (OpR.plain rfl (r_bin rfl rfl (nb rfl) rfl (run_int_eql _ _ _))) ?_
      refine AL.nil ?_
      refine thenN ?_
      refine AW.condb rfl (fun h21 => ?_) (fun h21 => ?_)
      · have h21n := h21; try simp only [dtt, dff, bqi, bqf, bni, bnf, nt1, nf1, nt0, nf0, ne_eq, ilt, ile, rows_length] at h21n
        refine AW.seq ?_
        refine AW.region ?_
        first | refine AL.go (OpR.plain rfl (r_load ti_27 rfl rfl (by simp only [loaded, mpc, mpn, if_true, ler, tks, tkz, tkn, dps, dpz, cap, nap, apn, lnc, lnn, zad, Nat.reduceAdd, adz]; rfl) (nb rfl))) ?_ | refine AL.go (OpR.plain rfl (r_loadp ti_27 rfl (by simp only [loaded, mpc, mpn, if_true, ler, tks, tkz, tkn, dps, dpz, cap, nap, apn, lnc, lnn, zad, Nat.reduceAdd, adz]; rfl) (nb rfl))) ?_
        refine AL.go (OpR.plain rfl (r_callFun (rside_s e 0 (by decide) (by decide) (hx (recs_of (by omega))) hP.x) en_30 rfl rfl rfl rfl (.cons (A.le_refl _) (.cons (A.le_refl _) .nil)) rfl (nb rfl))) ?_
        refine AL.go (OpR.plain rfl (r_bin rfl rfl (nb rfl) rfl (run_str_add _ _ (by first | omega | (simp only [rows_length] at *; omega) | (simp only [ByteArray.size_append, sz1, sz2, sz4, sz8, sz12, Int.toNat_zero, Int.toNat_one] at *; omega))))) ?_
        refine AL.go (OpR.plain rfl (r_assign rfl (nb rfl) (by rintro _ ⟨⟩))) ?_
        refine AL.nil ?_
        refine thenN ?_
        refine AW.ret ?_
        refine thenR ?_
        refine fin_id (.inr rfl) (ends_of rfl (.tmp rfl .nil)) ?_ .nil rfl rfl rfl rfl
        simp only [retA]
        refine A.le_of_eq ?_
        try (exfalso; omega)
        try rw [Ex.pr_eq e]
        try unfold prOp
        repeat (first | rw [if_pos (by first | assumption | omega)] | rw [if_neg (by first | assumption | omega)])
        try rfl
        try (rw [show asksM e.op 0 = 3 by unfold asksM; repeat (first | rw [if_pos (by omega)] | rw [if_neg (by omega)])]; rfl)
        try (rw [show asksM e.op 0 = 5 by unfold asksM; repeat (first | rw [if_pos (by omega)] | rw [if_neg (by omega)])]; rfl)
      · have h21n := h21; try simp only [dtt, dff, bqi, bqf, bni, bnf, nt1, nf1, nt0, nf0, ne_eq, ilt, ile, rows_length] at h21n
        refine AW.skip ?_
        refine thenN ?_
        refine AW.seq ?_
        refine AW.seq ?_
        refine AW.region ?_
        first | refine AL.go (OpR.plain rfl (r_fieldAddr fo_27_0 (by decide) rfl (nb rfl))) ?_ | refine AL.go (OpR.plain rfl (r_fieldAddrp fo_27_0 (by decide) rfl (nb rfl))) ?_
        first | refine AL.go (OpR.plain rfl (r_load ti_3 rfl rfl rfl (nb rfl))) ?_ | refine AL.go (OpR.plain rfl (r_loadp ti_3 rfl rfl (nb rfl))) ?_
        refine AL.go (OpR.plain rfl (r_bin rfl rfl (nb rfl) rfl (run_int_eql _ _ _))) ?_
        refine AL.nil ?_
        refine thenN ?_
        refine AW.condb rfl (fun h22 => ?_) (fun h22 => ?_)
        · have h22n := h22; try simp only [dtt, dff, bqi, bqf, bni, bnf, nt1, nf1, nt0, nf0, ne_eq, ilt, ile, rows_length] at h22n
          refine AW.seq ?_
          refine AW.region ?_
          first | refine AL.go (OpR.plain rfl (r_load ti_27 rfl rfl (by simp only [loaded, mpc, mpn, if_true, ler, tks, tkz, tkn, dps, dpz, cap, nap, apn, lnc, lnn, zad, Nat.reduceAdd, adz]; rfl) (nb rfl))) ?_ | refine AL.go (OpR.plain rfl (r_loadp ti_27 rfl (by simp only [loaded, mpc, mpn, if_true, ler, tks, tkz, tkn, dps, dpz, cap, nap, apn, lnc, lnn, zad, Nat.reduceAdd, adz]; rfl) (nb rfl))) ?_
          refine AL.go (OpR.plain rfl (r_callFun (rside_s e 0 (by decide) (by decide) (hx (recs_of (by omega))) hP.x) en_30 rfl rfl rfl rfl (.cons (A.le_refl _) (.cons (A.le_refl _) .nil)) rfl (nb rfl))) ?_
          refine AL.go (OpR.plain rfl (r_bin rfl rfl (nb rfl) rfl (run_str_add _ _ (by first | omega | (simp only [rows_length] at *; omega) | (simp only [ByteArray.size_append, sz1, sz2, sz4, sz8, sz12, Int.toNat_zero, Int.toNat_one] at *; omega))))) ?_
          refine AL.go (OpR.plain rfl (r_assign rfl (nb rfl) (by rintro _ ⟨⟩))) ?_
          refine AL.nil ?_
          refine thenN ?_
          refine AW.ret ?_
          refine thenR ?_
          refine fin_id (.inr rfl) (ends_of rfl (.tmp rfl .nil)) ?_ .nil rfl rfl rfl rfl
          simp only [retA]
          refine A.le_of_eq ?_
          try (exfalso; omega)
          try rw [Ex.pr_eq e]
          try unfold prOp
          repeat (first | rw [if_pos (by first | assumption | omega)] | rw [if_neg (by first | assumption | omega)])
          try rfl
          try (rw [show asksM e.op 0 = 3 by unfold asksM; repeat (first | rw [if_pos (by omega)] | rw [if_neg (by omega)])]; rfl)
          try (rw [show asksM e.op 0 = 5 by unfold asksM; repeat (first | rw [if_pos (by omega)] | rw [if_neg (by omega)])]; rfl)
        · have h22n := h22; try simp only [dtt, dff, bqi, bqf, bni, bnf, nt1, nf1, nt0, nf0, ne_eq, ilt, ile, rows_length] at h22n
          refine AW.skip ?_
          refine thenN ?_
          refine AW.seq ?_
          refine AW.seq ?_
          refine AW.region ?_
          first | refine AL.go (OpR.plain rfl (r_fieldAddr fo_27_0 (by decide) rfl (nb rfl))) ?_ | refine AL.go (OpR.plain rfl (r_fieldAddrp fo_27_0 (by decide) rfl (nb rfl))) ?_
          first | refine AL.go (OpR.plain rfl (r_load ti_3 rfl rfl rfl (nb rfl))) ?_ | refine AL.go (OpR.plain rfl (r_loadp ti_3 rfl rfl (nb rfl))) ?_
          refine AL.go (OpR.plain rfl (r_bin rfl rfl (nb rfl) rfl (run_int_eql _ _ _))) ?_
          refine AL.go (OpR.plain rfl (r_move rfl (nb rfl) (by rintro _ ⟨⟩))) ?_
          refine AL.ifb (t := 44) rfl (fun h23 => ?_) (fun h23 => ?_)
          · have h23n := h23; try simp only [dtt, dff, bqi, bqf, bni, bnf, nt1, nf1, nt0, nf0, ne_eq, ilt, ile, rows_length] at h23n
            first | refine AL.go (OpR.onb rfl rfl (nb rfl) rfl (h23) (r_fieldAddr fo_27_1 (by decide) rfl (nb rfl))) ?_ | refine AL.go (OpR.onb rfl rfl (nb rfl) rfl (h23) (r_fieldAddrp fo_27_1 (by decide) rfl (nb rfl))) ?_
            first | refine AL.go (OpR.onb rfl rfl (nb rfl) rfl (h23) (r_load ti_9 rfl rfl rfl (nb rfl))) ?_ | refine AL.go (OpR.onb rfl rfl (nb rfl) rfl (h23) (r_loadp ti_9 rfl rfl (nb rfl))) ?_
            refine AL.go (OpR.onb rfl rfl (nb rfl) rfl (h23) (r_bin rfl rfl (nb rfl) rfl (run_str_eql _ _))) ?_
            refine AL.go (OpR.plain rfl (r_pickTb rfl (h23) rfl (nb rfl) (by rintro _ ⟨⟩))) ?_
            refine AL.nil ?_
            refine thenN ?_
            refine AW.condb rfl (fun h24 => ?_) (fun h24 => ?_)
            · have h24n := h24; try simp only [dtt, dff, bqi, bqf, bni, bnf, nt1, nf1, nt0, nf0, ne_eq, ilt, ile, rows_length] at h24n
              refine AW.seq ?_
              refine AW.region ?_
              first | refine AL.go (OpR.plain rfl (r_fieldAddr fo_27_2 (by decide) rfl (nb rfl))) ?_ | refine AL.go (OpR.plain rfl (r_fieldAddrp fo_27_2 (by decide) rfl (nb rfl))) ?_
              first | refine AL.go (OpR.plain rfl (r_load ti_9 rfl rfl rfl (nb rfl))) ?_ | refine AL.go (OpR.plain rfl (r_loadp ti_9 rfl rfl (nb rfl))) ?_
              refine AL.go (OpR.plain rfl (r_assign rfl (nb rfl) (by rintro _ ⟨⟩))) ?_
              refine AL.nil ?_
              refine thenN ?_
              refine AW.ret ?_
              refine thenR ?_
              refine fin_id (.inr rfl) (ends_of rfl (.tmp rfl .nil)) ?_ .nil rfl rfl rfl rfl
              simp only [retA]
              refine A.le_of_eq ?_
              try (exfalso; omega)
              try rw [Ex.pr_eq e]
              try unfold prOp
              repeat (first | rw [if_pos (by first | assumption | omega)] | rw [if_neg (by first | assumption | omega)])
              try rfl
              try (rw [show asksM e.op 0 = 3 by unfold asksM; repeat (first | rw [if_pos (by omega)] | rw [if_neg (by omega)])]; rfl)
              try (rw [show asksM e.op 0 = 5 by unfold asksM; repeat (first | rw [if_pos (by omega)] | rw [if_neg (by omega)])]; rfl)
            · have h24n := h24; try simp only [dtt, dff, bqi, bqf, bni, bnf, nt1, nf1, nt0, nf0, ne_eq, ilt, ile, rows_length] at h24n
              refine AW.skip ?_
              refine thenN ?_
              refine AW.seq ?_
              refine AW.seq ?_
              refine AW.region ?_
              first | refine AL.go (OpR.plain rfl (r_fieldAddr fo_27_0 (by decide) rfl (nb rfl))) ?_ | refine AL.go (OpR.plain rfl (r_fieldAddrp fo_27_0 (by decide) rfl (nb rfl))) ?_
              first | refine AL.go (OpR.plain rfl (r_load ti_3 rfl rfl rfl (nb rfl))) ?_ | refine AL.go (OpR.plain rfl (r_loadp ti_3 rfl rfl (nb rfl))) ?_
              refine AL.go (OpR.plain rfl (r_bin rfl rfl (nb rfl) rfl (run_int_eql _ _ _))) ?_
              refine AL.nil ?_
              refine thenN ?_
              refine AW.condb rfl (fun h25 => ?_) (fun h25 => ?_)
              · have h25n := h25; try simp only [dtt, dff, bqi, bqf, bni, bnf, nt1, nf1, nt0, nf0, ne_eq, ilt, ile, rows_length] at h25n
                refine AW.seq ?_
                refine AW.region ?_
                first | refine AL.go (OpR.plain rfl (r_fieldAddr fo_27_1 (by decide) rfl (nb rfl))) ?_ | refine AL.go (OpR.plain rfl (r_fieldAddrp fo_27_1 (by decide) rfl (nb rfl))) ?_
                first | refine AL.go (OpR.plain rfl (r_load ti_9 rfl rfl rfl (nb rfl))) ?_ | refine AL.go (OpR.plain rfl (r_loadp ti_9 rfl rfl (nb rfl))) ?_
                refine AL.go (OpR.plain rfl (r_bin rfl rfl (nb rfl) rfl (run_str_add _ _ (by first | omega | (simp only [rows_length] at *; omega) | (simp only [ByteArray.size_append, sz1, sz2, sz4, sz8, sz12, Int.toNat_zero, Int.toNat_one] at *; omega))))) ?_
                first | refine AL.go (OpR.plain rfl (r_fieldAddr fo_27_2 (by decide) rfl (nb rfl))) ?_ | refine AL.go (OpR.plain rfl (r_fieldAddrp fo_27_2 (by decide) rfl (nb rfl))) ?_
                first | refine AL.go (OpR.plain rfl (r_load ti_9 rfl rfl rfl (nb rfl))) ?_ | refine AL.go (OpR.plain rfl (r_loadp ti_9 rfl rfl (nb rfl))) ?_
                refine AL.go (OpR.plain rfl (r_bin rfl rfl (nb rfl) rfl (run_str_add _ _ (by first | omega | (simp only [rows_length] at *; omega) | (simp only [ByteArray.size_append, sz1, sz2, sz4, sz8, sz12, Int.toNat_zero, Int.toNat_one] at *; omega))))) ?_
                refine AL.go (OpR.plain rfl (r_assign rfl (nb rfl) (by rintro _ ⟨⟩))) ?_
                refine AL.nil ?_
                refine thenN ?_
                refine AW.ret ?_
                refine thenR ?_
                refine fin_id (.inr rfl) (ends_of rfl (.tmp rfl .nil)) ?_ .nil rfl rfl rfl rfl
                simp only [retA]
                refine A.le_of_eq ?_
                try (exfalso; omega)
                try rw [Ex.pr_eq e]
                try unfold prOp
                repeat (first | rw [if_pos (by first | assumption | omega)] | rw [if_neg (by first | assumption | omega)])
                try rfl
                try (rw [show asksM e.op 0 = 3 by unfold asksM; repeat (first | rw [if_pos (by omega)] | rw [if_neg (by omega)])]; rfl)
                try (rw [show asksM e.op 0 = 5 by unfold asksM; repeat (first | rw [if_pos (by omega)] | rw [if_neg (by omega)])]; rfl)
              · have h25n := h25; try simp only [dtt, dff, bqi, bqf, bni, bnf, nt1, nf1, nt0, nf0, ne_eq, ilt, ile, rows_length] at h25n
                refine AW.skip ?_
                refine thenN ?_
                refine AW.seq ?_
                refine AW.seq ?_
                refine AW.region ?_
                first | refine AL.go (OpR.plain rfl (r_fieldAddr fo_27_0 (by decide) rfl (nb rfl))) ?_ | refine AL.go (OpR.plain rfl (r_fieldAddrp fo_27_0 (by decide) rfl (nb rfl))) ?_
                first | refine AL.go (OpR.plain rfl (r_load ti_3 rfl rfl rfl (nb rfl))) ?_ | refine AL.go (OpR.plain rfl (r_loadp ti_3 rfl rfl (nb rfl))) ?_
                refine AL.go (OpR.plain rfl (r_bin rfl rfl (nb rfl) rfl (run_int_eql _ _ _))) ?_
                refine AL.nil ?_
                refine thenN ?_
                refine AW.condb rfl (fun h26 => ?_) (fun h26 => ?_)
                · have h26n := h26; try simp only [dtt, dff, bqi, bqf, bni, bnf, nt1, nf1, nt0, nf0, ne_eq, ilt, ile, rows_length] at h26n
                  refine AW.seq ?_
                  refine AW.region ?_
                  first | refine AL.go (OpR.plain rfl (r_fieldAddr fo_27_5 (by decide) rfl (nb rfl))) ?_ | refine AL.go (OpR.plain rfl (r_fieldAddrp fo_27_5 (by decide) rfl (nb rfl))) ?_
                  first | refine AL.go (OpR.plain rfl (r_load ti_24 rfl rfl (by simp only [loaded, mpc, mpn, if_true, ler, tks, tkz, tkn, dps, dpz, cap, nap, apn, lnc, lnn, zad, Nat.reduceAdd, adz]; rfl) (nb rfl))) ?_ | refine AL.go (OpR.plain rfl (r_loadp ti_24 rfl (by simp only [loaded, mpc, mpn, if_true, ler, tks, tkz, tkn, dps, dpz, cap, nap, apn, lnc, lnn, zad, Nat.reduceAdd, adz]; rfl) (nb rfl))) ?_
                  refine AL.go (OpR.plain rfl (r_callFun (rval_p _ hP.lo hP.hi hP.s) en_19 rfl rfl rfl rfl (.cons (A.le_refl _) .nil) rfl (nb rfl))) ?_
                  refine AL.go (OpR.plain rfl (r_assign rfl (nb rfl) (by rintro _ ⟨⟩))) ?_
                  refine AL.nil ?_
                  refine thenN ?_
                  refine AW.ret ?_
                  refine thenR ?_
                  refine fin_id (.inr rfl) (ends_of rfl (.tmp rfl .nil)) ?_ .nil rfl rfl rfl rfl
                  simp only [retA]
                  refine A.le_of_eq ?_
                  try (exfalso; omega)
                  try rw [Ex.pr_eq e]
                  try unfold prOp
                  repeat (first | rw [if_pos (by first | assumption | omega)] | rw [if_neg (by first | assumption | omega)])
                  try rfl
                  try (rw [show asksM e.op 0 = 3 by unfold asksM; repeat (first | rw [if_pos (by omega)] | rw [if_neg (by omega)])]; rfl)
                  try (rw [show asksM e.op 0 = 5 by unfold asksM; repeat (first | rw [if_pos (by omega)] | rw [if_neg (by omega)])]; rfl)
                · have h26n := h26; try simp only [dtt, dff, bqi, bqf, bni, bnf, nt1, nf1, nt0, nf0, ne_eq, ilt, ile, rows_length] at h26n
                  refine AW.skip ?_
                  refine thenN ?_
                  refine AW.seq ?_
                  refine AW.seq ?_
                  refine AW.region ?_
                  first | refine AL.go (OpR.plain rfl (r_fieldAddr fo_27_0 (by decide) rfl (nb rfl))) ?_ | refine AL.go (OpR.plain rfl (r_fieldAddrp fo_27_0 (by decide) rfl (nb rfl))) ?_
                  first | refine AL.go (OpR.plain rfl (r_load ti_3 rfl rfl rfl (nb rfl))) ?_ | refine AL.go (OpR.plain rfl (r_loadp ti_3 rfl rfl (nb rfl))) ?_
                  refine AL.go (OpR.plain rfl (r_bin rfl rfl (nb rfl) rfl (run_int_eql _ _ _))) ?_
                  refine AL.nil ?_
                  refine thenN ?_
                  refine AW.condb rfl (fun h27 => ?_) (fun h27 => ?_)
                  · have h27n := h27; try simp only [dtt, dff, bqi, bqf, bni, bnf, nt1, nf1, nt0, nf0, ne_eq, ilt, ile, rows_length] at h27n
                    refine AW.seq ?_
                    refine AW.region ?_
                    refine AL.go (OpR.plain rfl (r_assign rfl (nb rfl) (by rintro _ ⟨⟩; rfl))) ?_
                    refine AL.nil ?_
                    refine thenN ?_
                    refine AW.ret ?_
                    refine thenR ?_
                    refine fin_id (.inr rfl) (ends_of rfl (.tmp rfl .nil)) ?_ .nil rfl rfl rfl rfl
                    simp only [retA]
                    refine A.le_of_eq ?_
                    try (exfalso; omega)
                    try rw [Ex.pr_eq e]
                    try unfold prOp
                    repeat (first | rw [if_pos (by first | assumption | omega)] | rw [if_neg (by first | assumption | omega)])
                    try rfl
                    try (rw [show asksM e.op 0 = 3 by unfold asksM; repeat (first | rw [if_pos (by omega)] | rw [if_neg (by omega)])]; rfl)
                    try (rw [show asksM e.op 0 = 5 by unfold asksM; repeat (first | rw [if_pos (by omega)] | rw [if_neg (by omega)])]; rfl)
                  · have h27n := h27; try simp only [dtt, dff, bqi, bqf, bni, bnf, nt1, nf1, nt0, nf0, ne_eq, ilt, ile, rows_length] at h27n
                    refine AW.skip ?_
                    refine thenN ?_
                    refine AW.seq ?_
                    refine AW.seq ?_
                    refine AW.region ?_
                    first | refine AL.go (OpR.plain rfl (r_fieldAddr fo_27_0 (by decide) rfl (nb rfl))) ?_ | refine AL.go (OpR.plain rfl (r_fieldAddrp fo_27_0 (by decide) rfl (nb rfl))) ?_
                    first | refine AL.go (OpR.plain rfl (r_load ti_3 rfl rfl rfl (nb rfl))) ?_ | refine AL.go (OpR.plain rfl (r_loadp ti_3 rfl rfl (nb rfl))) ?_
                    refine AL.go (OpR.plain rfl (r_bin rfl rfl (nb rfl) rfl (run_int_geq _ _ _))) ?_
                    refine AL.go (OpR.plain rfl (r_move rfl (nb rfl) (by rintro _ ⟨⟩))) ?_
                    refine AL.ifb (t := 72) rfl (fun h28 => ?_) (fun h28 => ?_)
                    · have h28n := h28; try simp only [dtt, dff, bqi, bqf, bni, bnf, nt1, nf1, nt0, nf0, ne_eq, ilt, ile, rows_length] at h28n
                      first | refine AL.go (OpR.onb rfl rfl (nb rfl) rfl (h28) (r_fieldAddr fo_27_0 (by decide) rfl (nb rfl))) ?_ | refine AL.go (OpR.onb rfl rfl (nb rfl) rfl (h28) (r_fieldAddrp fo_27_0 (by decide) rfl (nb rfl))) ?_
                      first | refine AL.go (OpR.onb rfl rfl (nb rfl) rfl (h28) (r_load ti_3 rfl rfl rfl (nb rfl))) ?_ | refine AL.go (OpR.onb rfl rfl (nb rfl) rfl (h28) (r_loadp ti_3 rfl rfl (nb rfl))) ?_
                      refine AL.go (OpR.onb rfl rfl (nb rfl) rfl (h28) (r_bin rfl rfl (nb rfl) rfl (run_int_leq _ _ _))) ?_
                      refine AL.go (OpR.plain rfl (r_pickTb rfl (h28) rfl (nb rfl) (by rintro _ ⟨⟩))) ?_
                      refine AL.nil ?_
                      refine thenN ?_
                      refine AW.condb rfl (fun h29 => ?_) (fun h29 => ?_)
                      · have h29n := h29; try simp only [dtt, dff, bqi, bqf, bni, bnf, nt1, nf1, nt0, nf0, ne_eq, ilt, ile, rows_length] at h29n
                        refine AW.seq ?_
                        refine AW.region ?_
                        refine AL.go (OpR.plain rfl (r_build pl_27 rfl zc_27 rfl rfl (by simp only [fillC, putAt, gez, ges, if_true, and_self, Nat.reduceLeDiff, true_and, tks, tkz, tkn, dps, dpz, cap, nap, apn, lnc, lnn, zad, Nat.reduceAdd, adz]; rfl) (nb rfl))) ?_
                        refine AL.go (OpR.plain rfl (r_alloc 102 ti_27 zc_27 rfl rfl (nb rfl))) ?_
                        refine AL.go (OpR.plain rfl (r_storeN ti_27 rfl rfl rfl rfl rfl (nb rfl) (by simp only [putAt, tks, tkz, tkn, dps, dpz, cap, nap, apn, lnc, lnn, zad, Nat.reduceAdd, adz]; rfl) (by rintro _ ⟨⟩))) ?_
                        refine AL.nil ?_
                        refine thenN ?_
                        refine AW.seq ?_
                        refine AW.seq ?_
                        refine AW.region ?_
                        first | refine AL.go (OpR.plain rfl (r_fieldAddr fo_27_6 (by decide) rfl (nb rfl))) ?_ | refine AL.go (OpR.plain rfl (r_fieldAddrp fo_27_6 (by decide) rfl (nb rfl))) ?_
                        first | refine AL.go (OpR.plain rfl (r_load ti_25 rfl rfl rfl (nb rfl))) ?_ | refine AL.go (OpR.plain rfl (r_loadp ti_25 rfl rfl (nb rfl))) ?_
                        refine AL.go (OpR.plain rfl (r_len un_25 rfl (by first | exact .sl | exact .own | exact .row | exact .nil) (by intro _ h; cases h) (nb rfl) (by rintro _ ⟨⟩))) ?_
                        refine AL.go (OpR.plain rfl (r_bin rfl rfl (nb rfl) rfl (run_int_gtr _ _ _))) ?_
                        refine AL.nil ?_
                        refine thenN ?_
                        refine AW.condb rfl (fun h30 => ?_) (fun h30 => ?_)
                        · have h30n := h30; try simp only [dtt, dff, bqi, bqf, bni, bnf, nt1, nf1, nt0, nf0, ne_eq, ilt, ile, rows_length] at h30n
                          refine AW.region ?_
                          first | refine AL.go (OpR.plain rfl (r_fieldAddr fo_27_6 (by decide) rfl (nb rfl))) ?_ | refine AL.go (OpR.plain rfl (r_fieldAddrp fo_27_6 (by decide) rfl (nb rfl))) ?_
                          first | refine AL.go (OpR.plain rfl (r_load ti_25 rfl rfl rfl (nb rfl))) ?_ | refine AL.go (OpR.plain rfl (r_loadp ti_25 rfl rfl (nb rfl))) ?_
                          refine AL.go (OpR.plain rfl (r_indexAddr un_25 ti_27 rfl (by first | exact .inl rfl | exact .inr ⟨_, rfl⟩) rfl rows_len (by first | omega | (simp only [rows_length] at *; omega) | (simp only [ByteArray.size_append, sz1, sz2, sz4, sz8, sz12, Int.toNat_zero, Int.toNat_one] at *; omega)) (part_row (by omega) (by first | omega | (simp only [rows_length] at *; omega))) (nb rfl))) ?_
                          first | refine AL.go (OpR.plain rfl (r_load ti_27 rfl rfl (by simp only [loaded, mpc, mpn, if_true, ler, tks, tkz, tkn, dps, dpz, cap, nap, apn, lnc, lnn, zad, Nat.reduceAdd, adz]; rfl) (nb rfl))) ?_ | refine AL.go (OpR.plain rfl (r_loadp ti_27 rfl (by simp only [loaded, mpc, mpn, if_true, ler, tks, tkz, tkn, dps, dpz, cap, nap, apn, lnc, lnn, zad, Nat.reduceAdd, adz]; rfl) (nb rfl))) ?_
                          refine AL.go (OpR.plain rfl (r_storeN ti_27 rfl rfl rfl rfl rfl (nb rfl) (by simp only [putAt, tks, tkz, tkn, dps, dpz, cap, nap, apn, lnc, lnn, zad, Nat.reduceAdd, adz]; rfl) (by rintro _ ⟨⟩))) ?_
                          refine AL.nil ?_
                          refine thenN ?_
                          refine AW.seq ?_
                          refine AW.draw ?_
                          first | refine DW.go (OpR.plain rfl (r_fieldAddr fo_27_0 (by decide) rfl (nb rfl))) ?_ | refine DW.go (OpR.plain rfl (r_fieldAddrp fo_27_0 (by decide) rfl (nb rfl))) ?_
                          first | refine DW.go (OpR.plain rfl (r_load ti_3 rfl rfl rfl (nb rfl))) ?_ | refine DW.go (OpR.plain rfl (r_loadp ti_3 rfl rfl (nb rfl))) ?_
                          refine DW.go (OpR.plain rfl (r_callFun (rop_s _) en_17 rfl rfl rfl rfl (.cons (A.le_refl _) .nil) rfl (nb rfl))) ?_
                          refine DW.go (OpR.plain rfl (r_bin rfl rfl (nb rfl) rfl (run_str_add _ _ (by first | omega | (simp only [rows_length] at *; omega) | (simp only [ByteArray.size_append, sz1, sz2, sz4, sz8, sz12, Int.toNat_zero, Int.toNat_one] at *; omega))))) ?_
                          first | refine DW.go (OpR.plain rfl (r_load ti_27 rfl rfl (by simp only [loaded, mpc, mpn, if_true, ler, tks, tkz, tkn, dps, dpz, cap, nap, apn, lnc, lnn, zad, Nat.reduceAdd, adz]; rfl) (nb rfl))) ?_ | refine DW.go (OpR.plain rfl (r_loadp ti_27 rfl (by simp only [loaded, mpc, mpn, if_true, ler, tks, tkz, tkn, dps, dpz, cap, nap, apn, lnc, lnn, zad, Nat.reduceAdd, adz]; rfl) (nb rfl))) ?_
                          refine DW.go (OpR.plain rfl (r_callFun (hx (recs_of (by omega))) en_13 rfl rfl rfl rfl (.cons (by first | exact A.le_refl _ | (rw [part_over (by first | omega | (simp only [rows_length] at *; omega))]; exact A.le_agg (.cons (C.le_refl _) (.cons (C.le_refl _) (.cons (C.le_refl _) (.cons (C.le_refl _) (.cons (C.le_refl _) (.cons (C.le_refl _) (.cons (C.le_refl _) (.cons (C.le_refl _) (.cons C.le_nil .nil))))))))))) .nil) rfl (nb rfl))) ?_
                          refine DW.go (OpR.plain rfl (r_bin rfl rfl (nb rfl) rfl (run_str_add _ _ (by first | omega | (simp only [rows_length] at *; omega) | (simp only [ByteArray.size_append, sz1, sz2, sz4, sz8, sz12, Int.toNat_zero, Int.toNat_one] at *; omega))))) ?_
                          refine DW.go (OpR.plain rfl (r_bin rfl rfl (nb rfl) rfl (run_str_add _ _ (by first | omega | (simp only [rows_length] at *; omega) | (simp only [ByteArray.size_append, sz1, sz2, sz4, sz8, sz12, Int.toNat_zero, Int.toNat_one] at *; omega))))) ?_
                          refine DW.go (OpR.plain rfl (r_assign rfl (nb rfl) (by rintro _ ⟨⟩))) ?_
                          refine DW.fin mixed (by kernel_rfl) (by kernel_rfl) ?_
                          refine thenN ?_
                          refine AW.ret ?_
                          refine thenR ?_
                          refine fin_id (.inr rfl) (ends_of rfl (.tmp rfl .nil)) ?_ .nil rfl rfl rfl rfl
                          simp only [retA]
                          refine A.le_of_eq ?_
                          try (exfalso; omega)
                          try rw [Ex.pr_eq e]
                          try unfold prOp
                          repeat (first | rw [if_pos (by first | assumption | omega)] | rw [if_neg (by first | assumption | omega)])
                          try rfl
                          try (rw [show asksM e.op 0 = 3 by unfold asksM; repeat (first | rw [if_pos (by omega)] | rw [if_neg (by omega)])]; rfl)
                          try (rw [show asksM e.op 0 = 5 by unfold asksM; repeat (first | rw [if_pos (by omega)] | rw [if_neg (by omega)])]; rfl)
                        · have h30n := h30; try simp only [dtt, dff, bqi, bqf, bni, bnf, nt1, nf1, nt0, nf0, ne_eq, ilt, ile, rows_length] at h30n
                          refine AW.skip ?_
                          refine thenN ?_
                          refine AW.seq ?_
                          refine AW.draw ?_
                          first | refine DW.go (OpR.plain rfl (r_fieldAddr fo_27_0 (by decide) rfl (nb rfl))) ?_ | refine DW.go (OpR.plain rfl (r_fieldAddrp fo_27_0 (by decide) rfl (nb rfl))) ?_
                          first | refine DW.go (OpR.plain rfl (r_load ti_3 rfl rfl rfl (nb rfl))) ?_ | refine DW.go (OpR.plain rfl (r_loadp ti_3 rfl rfl (nb rfl))) ?_
                          refine DW.go (OpR.plain rfl (r_callFun (rop_s _) en_17 rfl rfl rfl rfl (.cons (A.le_refl _) .nil) rfl (nb rfl))) ?_
                          refine DW.go (OpR.plain rfl (r_bin rfl rfl (nb rfl) rfl (run_str_add _ _ (by first | omega | (simp only [rows_length] at *; omega) | (simp only [ByteArray.size_append, sz1, sz2, sz4, sz8, sz12, Int.toNat_zero, Int.toNat_one] at *; omega))))) ?_
                          first | refine DW.go (OpR.plain rfl (r_load ti_27 rfl rfl (by simp only [loaded, mpc, mpn, if_true, ler, tks, tkz, tkn, dps, dpz, cap, nap, apn, lnc, lnn, zad, Nat.reduceAdd, adz]; rfl) (nb rfl))) ?_ | refine DW.go (OpR.plain rfl (r_loadp ti_27 rfl (by simp only [loaded, mpc, mpn, if_true, ler, tks, tkz, tkn, dps, dpz, cap, nap, apn, lnc, lnn, zad, Nat.reduceAdd, adz]; rfl) (nb rfl))) ?_
                          refine DW.go (OpR.plain rfl (r_callFun (hx (recs_of (by omega))) en_13 rfl rfl rfl rfl (.cons (by first | exact A.le_refl _ | (rw [part_over (by first | omega | (simp only [rows_length] at *; omega))]; exact A.le_agg (.cons (C.le_refl _) (.cons (C.le_refl _) (.cons (C.le_refl _) (.cons (C.le_refl _) (.cons (C.le_refl _) (.cons (C.le_refl _) (.cons (C.le_refl _) (.cons (C.le_refl _) (.cons C.le_nil .nil))))))))))) .nil) rfl (nb rfl))) ?_
                          refine DW.go (OpR.plain rfl (r_bin rfl rfl (nb rfl) rfl (run_str_add _ _ (by first | omega | (simp only [rows_length] at *; omega) | (simp only [ByteArray.size_append, sz1, sz2, sz4, sz8, sz12, Int.toNat_zero, Int.toNat_one] at *; omega))))) ?_
                          refine DW.go (OpR.plain rfl (r_bin rfl rfl (nb rfl) rfl (run_str_add _ _ (by first | omega | (simp only [rows_length] at *; omega) | (simp only [ByteArray.size_append, sz1, sz2, sz4, sz8, sz12, Int.toNat_zero, Int.toNat_one] at *; omega))))) ?_
                          refine DW.go (OpR.plain rfl (r_assign rfl (nb rfl) (by rintro _ ⟨⟩))) ?_
                          refine DW.fin mixed (by kernel_rfl) (by kernel_rfl) ?_
                          refine thenN ?_
                          refine AW.ret ?_
                          refine thenR ?_
                          refine fin_id (.inr rfl) (ends_of rfl (.tmp rfl .nil)) ?_ .nil rfl rfl rfl rfl
                          simp only [retA]
                          refine A.le_of_eq ?_
                          try (exfalso; omega)
                          try rw [Ex.pr_eq e]
                          try unfold prOp
                          repeat (first | rw [if_pos (by first | assumption | omega)] | rw [if_neg (by first | assumption | omega)])
                          try rfl
                          try (rw [show asksM e.op 0 = 3 by unfold asksM; repeat (first | rw [if_pos (by omega)] | rw [if_neg (by omega)])]; rfl)
                          try (rw [show asksM e.op 0 = 5 by unfold asksM; repeat (first | rw [if_pos (by omega)] | rw [if_neg (by omega)])]; rfl)
                      · have h29n := h29; try simp only [dtt, dff, bqi, bqf, bni, bnf, nt1, nf1, nt0, nf0, ne_eq, ilt, ile, rows_length] at h29n
                        refine AW.skip ?_
                        refine thenN ?_
                        refine AW.seq ?_
                        refine AW.region ?_
                        refine AL.go (OpR.plain rfl (r_assign rfl (nb rfl) (by rintro _ ⟨⟩; rfl))) ?_
                        refine AL.nil ?_
                        refine thenN ?_
                        refine AW.ret ?_
                        refine fin_id (.inr rfl) (ends_of rfl (.tmp rfl .nil)) ?_ .nil rfl rfl rfl rfl
                        simp only [retA]
                        refine A.le_of_eq ?_
                        try (exfalso; omega)
                        try rw [Ex.pr_eq e]
                        try unfold prOp
                        repeat (first | rw [if_pos (by first | assumption | omega)] | rw [if_neg (by first | assumption | omega)])
                        try rfl
                        try (rw [show asksM e.op 0 = 3 by unfold asksM; repeat (first | rw [if_pos (by omega)] | rw [if_neg (by omega)])]; rfl)
                        try (rw [show asksM e.op 0 = 5 by unfold asksM; repeat (first | rw [if_pos (by omega)] | rw [if_neg (by omega)])]; rfl)
                    · have h28n := h28; try simp only [dtt, dff, bqi, bqf, bni, bnf, nt1, nf1, nt0, nf0, ne_eq, ilt, ile, rows_length] at h28n
                      refine AL.go (.off rfl rfl (nb rfl) rfl (by rw [h28]; decide) rfl (nb rfl)) ?_
                      refine AL.go (.off rfl rfl (nb rfl) rfl (by rw [h28]; decide) rfl (nb rfl)) ?_
                      refine AL.go (.off rfl rfl (nb rfl) rfl (by rw [h28]; decide) rfl (nb rfl)) ?_
                      refine AL.go (OpR.plain rfl (r_pickFb rfl (h28) rfl (nb rfl) (by rintro _ ⟨⟩; rfl))) ?_
                      refine AL.nil ?_
                      refine thenN ?_
                      refine AW.condF rfl (rfl) ?_
                      refine AW.skip ?_
                      refine thenN ?_
                      refine AW.seq ?_
                      refine AW.region ?_
                      refine AL.go (OpR.plain rfl (r_assign rfl (nb rfl) (by rintro _ ⟨⟩; rfl))) ?_
                      refine AL.nil ?_
                      refine thenN ?_
                      refine AW.ret ?_
                      refine fin_id (.inr rfl) (ends_of rfl (.tmp rfl .nil)) ?_ .nil rfl rfl rfl rfl
                      simp only [retA]
                      refine A.le_of_eq ?_
                      try (exfalso; omega)
                      try rw [Ex.pr_eq e]
                      try unfold prOp
                      repeat (first | rw [if_pos (by first | assumption | omega)] | rw [if_neg (by first | assumption | omega)])
                      try rfl
                      try (rw [show asksM e.op 0 = 3 by unfold asksM; repeat (first | rw [if_pos (by omega)] | rw [if_neg (by omega)])]; rfl)
                      try (rw [show asksM e.op 0 = 5 by unfold asksM; repeat (first | rw [if_pos (by omega)] | rw [if_neg (by omega)])]; rfl)
          · have h23n := h23; try simp only [dtt, dff, bqi, bqf, bni, bnf, nt1, nf1, nt0, nf0, ne_eq, ilt, ile, rows_length] at h23n
            refine AL.go (.off rfl rfl (nb rfl) rfl (by rw [h23]; decide) rfl (nb rfl)) ?_
            refine AL.go (.off rfl rfl (nb rfl) rfl (by rw [h23]; decide) rfl (nb rfl)) ?_
            refine AL.go (.off rfl rfl (nb rfl) rfl (by rw [h23]; decide) rfl (nb rfl)) ?_
            refine AL.go (OpR.plain rfl (r_pickFb rfl (h23) rfl (nb rfl) (by rintro _ ⟨⟩; rfl))) ?_
            refine AL.nil ?_
            refine thenN ?_
            refine AW.condF rfl (rfl) ?_
            refine AW.skip ?_
            refine thenN ?_
            refine AW.seq ?_
            refine AW.seq ?_
            refine AW.region ?_
            first | refine AL.go (OpR.plain rfl (r_fieldAddr fo_27_0 (by decide) rfl (nb rfl))) ?_ | refine AL.go (OpR.plain rfl (r_fieldAddrp fo_27_0 (by decide) rfl (nb rfl))) ?_
            first | refine AL.go (OpR.plain rfl (r_load ti_3 rfl rfl rfl (nb rfl))) ?_ | refine AL.go (OpR.plain rfl (r_loadp ti_3 rfl rfl (nb rfl))) ?_
            refine AL.go (OpR.plain rfl (r_bin rfl rfl (nb rfl) rfl (run_int_eql _ _ _))) ?_
            refine AL.nil ?_
            refine thenN ?_
            refine AW.condb rfl (fun h31 => ?_) (fun h31 => ?_)
            · have h31n := h31; try simp only [dtt, dff, bqi, bqf, bni, bnf, nt1, nf1, nt0, nf0, ne_eq, ilt, ile, rows_length] at h31n
              refine AW.seq ?_
              refine AW.region ?_
              first | refine AL.go (OpR.plain rfl (r_fieldAddr fo_27_1 (by decide) rfl (nb rfl))) ?_ | refine AL.go (OpR.plain rfl (r_fieldAddrp fo_27_1 (by decide) rfl (nb rfl))) ?_
              first | refine AL.go (OpR.plain rfl (r_load ti_9 rfl rfl rfl (nb rfl))) ?_ | refine AL.go (OpR.plain rfl (r_loadp ti_9 rfl rfl (nb rfl))) ?_
              refine AL.go (OpR.plain rfl (r_bin rfl rfl (nb rfl) rfl (run_str_add _ _ (by first | omega | (simp only [rows_length] at *; omega) | (simp only [ByteArray.size_append, sz1, sz2, sz4, sz8, sz12, Int.toNat_zero, Int.toNat_one] at *; omega))))) ?_
              first | refine AL.go (OpR.plain rfl (r_fieldAddr fo_27_2 (by decide) rfl (nb rfl))) ?_ | refine AL.go (OpR.plain rfl (r_fieldAddrp fo_27_2 (by decide) rfl (nb rfl))) ?_
              first | refine AL.go (OpR.plain rfl (r_load ti_9 rfl rfl rfl (nb rfl))) ?_ | refine AL.go (OpR.plain rfl (r_loadp ti_9 rfl rfl (nb rfl))) ?_
              refine AL.go (OpR.plain rfl (r_bin rfl rfl (nb rfl) rfl (run_str_add _ _ (by first | omega | (simp only [rows_length] at *; omega) | (simp only [ByteArray.size_append, sz1, sz2, sz4, sz8, sz12, Int.toNat_zero, Int.toNat_one] at *; omega))))) ?_
              refine AL.go (OpR.plain rfl (r_assign rfl (nb rfl) (by rintro _ ⟨⟩))) ?_
              refine AL.nil ?_
              refine thenN ?_
              refine AW.ret ?_
              refine thenR ?_
              refine fin_id (.inr rfl) (ends_of rfl (.tmp rfl .nil)) ?_ .nil rfl rfl rfl rfl
              simp only [retA]
              refine A.le_of_eq ?_
              try (exfalso; omega)
              try rw [Ex.pr_eq e]
              try unfold prOp
              repeat (first | rw [if_pos (by first | assumption | omega)] | rw [if_neg (by first | assumption | omega)])
              try rfl
              try (rw [show asksM e.op 0 = 3 by unfold asksM; repeat (first | rw [if_pos (by omega)] | rw [if_neg (by omega)])]; rfl)
              try (rw [show asksM e.op 0 = 5 by unfold asksM; repeat (first | rw [if_pos (by omega)] | rw [if_neg (by omega)])]; rfl)
            · have h31n := h31; try simp only [dtt, dff, bqi, bqf, bni, bnf, nt1, nf1, nt0, nf0, ne_eq, ilt, ile, rows_length] at h31n
              refine AW.skip ?_
              refine thenN ?_
              refine AW.seq ?_
              refine AW.seq ?_
              refine AW.region ?_
              first | refine AL.go (OpR.plain rfl (r_fieldAddr fo_27_0 (by decide) rfl (nb rfl))) ?_ | refine AL.go (OpR.plain rfl (r_fieldAddrp fo_27_0 (by decide) rfl (nb rfl))) ?_
              first | refine AL.go (OpR.plain rfl (r_load ti_3 rfl rfl rfl (nb rfl))) ?_ | refine AL.go (OpR.plain rfl (r_loadp ti_3 rfl rfl (nb rfl))) ?_
              refine AL.go (OpR.plain rfl (r_bin rfl rfl (nb rfl) rfl (run_int_eql _ _ _))) ?_
              refine AL.nil ?_
              refine thenN ?_
              refine AW.condb rfl (fun h32 => ?_) (fun h32 => ?_)
              · have h32n := h32; try simp only [dtt, dff, bqi, bqf, bni, bnf, nt1, nf1, nt0, nf0, ne_eq, ilt, ile, rows_length] at h32n
                refine AW.seq ?_
                refine AW.region ?_
                first | refine AL.go (OpR.plain rfl (r_fieldAddr fo_27_5 (by decide) rfl (nb rfl))) ?_ | refine AL.go (OpR.plain rfl (r_fieldAddrp fo_27_5 (by decide) rfl (nb rfl))) ?_
                first | refine AL.go (OpR.plain rfl (r_load ti_24 rfl rfl (by simp only [loaded, mpc, mpn, if_true, ler, tks, tkz, tkn, dps, dpz, cap, nap, apn, lnc, lnn, zad, Nat.reduceAdd, adz]; rfl) (nb rfl))) ?_ | refine AL.go (OpR.plain rfl (r_loadp ti_24 rfl (by simp only [loaded, mpc, mpn, if_true, ler, tks, tkz, tkn, dps, dpz, cap, nap, apn, lnc, lnn, zad, Nat.reduceAdd, adz]; rfl) (nb rfl))) ?_
                refine AL.go (OpR.plain rfl (r_callFun (rval_p _ hP.lo hP.hi hP.s) en_19 rfl rfl rfl rfl (.cons (A.le_refl _) .nil) rfl (nb rfl))) ?_
                refine AL.go (OpR.plain rfl (r_assign rfl (nb rfl) (by rintro _ ⟨⟩))) ?_
                refine AL.nil ?_
                refine thenN ?_
                refine AW.ret ?_
                refine thenR ?_
                refine fin_id (.inr rfl) (ends_of rfl (.tmp rfl .nil)) ?_ .nil rfl rfl rfl rfl
                simp only [retA]
                refine A.le_of_eq ?_
                try (exfalso; omega)
                try rw [Ex.pr_eq e]
                try unfold prOp
                repeat (first | rw [if_pos (by first | assumption | omega)] | rw [if_neg (by first | assumption | omega)])
                try rfl
                try (rw [show asksM e.op 0 = 3 by unfold asksM; repeat (first | rw [if_pos (by omega)] | rw [if_neg (by omega)])]; rfl)
                try (rw [show asksM e.op 0 = 5 by unfold asksM; repeat (first | rw [if_pos (by omega)] | rw [if_neg (by omega)])]; rfl)
              · have h32n := h32; try simp only [dtt, dff, bqi, bqf, bni, bnf, nt1, nf1, nt0, nf0, ne_eq, ilt, ile, rows_length] at h32n
                refine AW.skip ?_
                refine thenN ?_
                refine AW.seq ?_
                refine AW.seq ?_
                refine AW.region ?_
                first | refine AL.go (OpR.plain rfl (r_fieldAddr fo_27_0 (by decide) rfl (nb rfl))) ?_ | refine AL.go (OpR.plain rfl (r_fieldAddrp fo_27_0 (by decide) rfl (nb rfl))) ?_
                first | refine AL.go (OpR.plain rfl (r_load ti_3 rfl rfl rfl (nb rfl))) ?_ | refine AL.go (OpR.plain rfl (r_loadp ti_3 rfl rfl (nb rfl))) ?_
                refine AL.go (OpR.plain rfl (r_bin rfl rfl (nb rfl) rfl (run_int_eql _ _ _))) ?_
                refine AL.nil ?_
                refine thenN ?_
                refine AW.condb rfl (fun h33 => ?_) (fun h33 => ?_)
                · have h33n := h33; try simp only [dtt, dff, bqi, bqf, bni, bnf, nt1, nf1, nt0, nf0, ne_eq, ilt, ile, rows_length] at h33n
                  refine AW.seq ?_
                  refine AW.region ?_
                  refine AL.go (OpR.plain rfl (r_assign rfl (nb rfl) (by rintro _ ⟨⟩; rfl))) ?_
                  refine AL.nil ?_
                  refine thenN ?_
                  refine AW.ret ?_
                  refine thenR ?_
                  refine fin_id (.inr rfl) (ends_of rfl (.tmp rfl .nil)) ?_ .nil rfl rfl rfl rfl
                  simp only [retA]
                  refine A.le_of_eq ?_
                  try (exfalso; omega)
                  try rw [Ex.pr_eq e]
                  try unfold prOp
                  repeat (first | rw [if_pos (by first | assumption | omega)] | rw [if_neg (by first | assumption | omega)])
                  try rfl
                  try (rw [show asksM e.op 0 = 3 by unfold asksM; repeat (first | rw [if_pos (by omega)] | rw [if_neg (by omega)])]; rfl)
                  try (rw [show asksM e.op 0 = 5 by unfold asksM; repeat (first | rw [if_pos (by omega)] | rw [if_neg (by omega)])]; rfl)
                · have h33n := h33; try simp only [dtt, dff, bqi, bqf, bni, bnf, nt1, nf1, nt0, nf0, ne_eq, ilt, ile, rows_length] at h33n
                  refine AW.skip ?_
                  refine thenN ?_
                  refine AW.seq ?_
                  refine AW.seq ?_
                  refine AW.region ?_
                  first | refine AL.go (OpR.plain rfl (r_fieldAddr fo_27_0 (by decide) rfl (nb rfl))) ?_ | refine AL.go (OpR.plain rfl (r_fieldAddrp fo_27_0 (by decide) rfl (nb rfl))) ?_
                  first | refine AL.go (OpR.plain rfl (r_load ti_3 rfl rfl rfl (nb rfl))) ?_ | refine AL.go (OpR.plain rfl (r_loadp ti_3 rfl rfl (nb rfl))) ?_
                  refine AL.go (OpR.plain rfl (r_bin rfl rfl (nb rfl) rfl (run_int_geq _ _ _))) ?_
                  refine AL.go (OpR.plain rfl (r_move rfl (nb rfl) (by rintro _ ⟨⟩))) ?_
                  refine AL.ifb (t := 72) rfl (fun h34 => ?_) (fun h34 => ?_)
                  · have h34n := h34; try simp only [dtt, dff, bqi, bqf, bni, bnf, nt1, nf1, nt0, nf0, ne_eq, ilt, ile, rows_length] at h34n
                    first | refine AL.go (OpR.onb rfl rfl (nb rfl) rfl (h34) (r_fieldAddr fo_27_0 (by decide) rfl (nb rfl))) ?_ | refine AL.go (OpR.onb rfl rfl (nb rfl) rfl (h34) (r_fieldAddrp fo_27_0 (by decide) rfl (nb rfl))) ?_
                    first | refine AL.go (OpR.onb rfl rfl (nb rfl) rfl (h34) (r_load ti_3 rfl rfl rfl (nb rfl))) ?_ | refine AL.go (OpR.onb rfl rfl (nb rfl) rfl (h34) (r_loadp ti_3 rfl rfl (nb rfl))) ?_
                    refine AL.go (OpR.onb rfl rfl (nb rfl) rfl (h34) (r_bin rfl rfl (nb rfl) rfl (run_int_leq _ _ _))) ?_
                    refine AL.go (OpR.plain rfl (r_pickTb rfl (h34) rfl (nb rfl) (by rintro _ ⟨⟩))) ?_
                    refine AL.nil ?_
                    refine thenN ?_
                    refine AW.condb rfl (fun h35 => ?_) (fun h35 => ?_)
                    · have h35n := h35; try simp only [dtt, dff, bqi, bqf, bni, bnf, nt1, nf1, nt0, nf0, ne_eq, ilt, ile, rows_length] at h35n
                      refine AW.seq ?_
                      refine AW.region ?_
                      refine AL.go (OpR.plain rfl (r_build pl_27 rfl zc_27 rfl rfl (by simp only [fillC, putAt, gez, ges, if_true, and_self, Nat.reduceLeDiff, true_and, tks, tkz, tkn, dps, dpz, cap, nap, apn, lnc, lnn, zad, Nat.reduceAdd, adz]; rfl) (nb rfl))) ?_
                      refine AL.go (OpR.plain rfl (r_alloc 102 ti_27 zc_27 rfl rfl (nb rfl))) ?_
                      refine AL.go (OpR.plain rfl (r_storeN ti_27 rfl rfl rfl rfl rfl (nb rfl) (by simp only [putAt, tks, tkz, tkn, dps, dpz, cap, nap, apn, lnc, lnn, zad, Nat.reduceAdd, adz]; rfl) (by rintro _ ⟨⟩))) ?_
                      refine AL.nil ?_
                      refine thenN ?_
                      refine AW.seq ?_
                      refine AW.seq ?_
                      refine AW.region ?_
                      first | refine AL.go (OpR.plain rfl (r_fieldAddr fo_27_6 (by decide) rfl (nb rfl))) ?_ | refine AL.go (OpR.plain rfl (r_fieldAddrp fo_27_6 (by decide) rfl (nb rfl))) ?_
                      first | refine AL.go (OpR.plain rfl (r_load ti_25 rfl rfl rfl (nb rfl))) ?_ | refine AL.go (OpR.plain rfl (r_loadp ti_25 rfl rfl (nb rfl))) ?_
                      refine AL.go (OpR.plain rfl (r_len un_25 rfl (by first | exact .sl | exact .own | exact .row | exact .nil) (by intro _ h; cases h) (nb rfl) (by rintro _ ⟨⟩))) ?_
                      refine AL.go (OpR.plain rfl (r_bin rfl rfl (nb rfl) rfl (run_int_gtr _ _ _))) ?_
                      refine AL.nil ?_
                      refine thenN ?_
                      refine AW.condb rfl (fun h36 => ?_) (fun h36 => ?_)
                      · have h36n := h36; try simp only [dtt, dff, bqi, bqf, bni, bnf, nt1, nf1, nt0, nf0, ne_eq, ilt, ile, rows_length] at h36n
                        refine AW.region ?_
                        first | refine AL.go (OpR.plain rfl (r_fieldAddr fo_27_6 (by decide) rfl (nb rfl))) ?_ | refine AL.go (OpR.plain rfl (r_fieldAddrp fo_27_6 (by decide) rfl (nb rfl))) ?_
                        first | refine AL.go (OpR.plain rfl (r_load ti_25 rfl rfl rfl (nb rfl))) ?_ | refine AL.go (OpR.plain rfl (r_loadp ti_25 rfl rfl (nb rfl))) ?_
                        refine AL.go (OpR.plain rfl (r_indexAddr un_25 ti_27 rfl (by first | exact .inl rfl | exact .inr ⟨_, rfl⟩) rfl rows_len (by first | omega | (simp only [rows_length] at *; omega) | (simp only [ByteArray.size_append, sz1, sz2, sz4, sz8, sz12, Int.toNat_zero, Int.toNat_one] at *; omega)) (part_row (by omega) (by first | omega | (simp only [rows_length] at *; omega))) (nb rfl))) ?_
                        first | refine AL.go (OpR.plain rfl (r_load ti_27 rfl rfl (by simp only [loaded, mpc, mpn, if_true, ler, tks, tkz, tkn, dps, dpz, cap, nap, apn, lnc, lnn, zad, Nat.reduceAdd, adz]; rfl) (nb rfl))) ?_ | refine AL.go (OpR.plain rfl (r_loadp ti_27 rfl (by simp only [loaded, mpc, mpn, if_true, ler, tks, tkz, tkn, dps, dpz, cap, nap, apn, lnc, lnn, zad, Nat.reduceAdd, adz]; rfl) (nb rfl))) ?_
                        refine AL.go (OpR.plain rfl (r_storeN ti_27 rfl rfl rfl rfl rfl (nb rfl) (by simp only [putAt, tks, tkz, tkn, dps, dpz, cap, nap, apn, lnc, lnn, zad, Nat.reduceAdd, adz]; rfl) (by rintro _ ⟨⟩))) ?_
                        refine AL.nil ?_
                        refine thenN ?_
                        refine AW.seq ?_
                        refine AW.draw ?_
                        first | refine DW.go (OpR.plain rfl (r_fieldAddr fo_27_0 (by decide) rfl (nb rfl))) ?_ | refine DW.go (OpR.plain rfl (r_fieldAddrp fo_27_0 (by decide) rfl (nb rfl))) ?_
                        first | refine DW.go (OpR.plain rfl (r_load ti_3 rfl rfl rfl (nb rfl))) ?_ | refine DW.go (OpR.plain rfl (r_loadp ti_3 rfl rfl (nb rfl))) ?_
                        refine DW.go (OpR.plain rfl (r_callFun (rop_s _) en_17 rfl rfl rfl rfl (.cons (A.le_refl _) .nil) rfl (nb rfl))) ?_
                        refine DW.go (OpR.plain rfl (r_bin rfl rfl (nb rfl) rfl (run_str_add _ _ (by first | omega | (simp only [rows_length] at *; omega) | (simp only [ByteArray.size_append, sz1, sz2, sz4, sz8, sz12, Int.toNat_zero, Int.toNat_one] at *; omega))))) ?_
                        first | refine DW.go (OpR.plain rfl (r_load ti_27 rfl rfl (by simp only [loaded, mpc, mpn, if_true, ler, tks, tkz, tkn, dps, dpz, cap, nap, apn, lnc, lnn, zad, Nat.reduceAdd, adz]; rfl) (nb rfl))) ?_ | refine DW.go (OpR.plain rfl (r_loadp ti_27 rfl (by simp only [loaded, mpc, mpn, if_true, ler, tks, tkz, tkn, dps, dpz, cap, nap, apn, lnc, lnn, zad, Nat.reduceAdd, adz]; rfl) (nb rfl))) ?_
                        refine DW.go (OpR.plain rfl (r_callFun (hx (recs_of (by omega))) en_13 rfl rfl rfl rfl (.cons (by first | exact A.le_refl _ | (rw [part_over (by first | omega | (simp only [rows_length] at *; omega))]; exact A.le_agg (.cons (C.le_refl _) (.cons (C.le_refl _) (.cons (C.le_refl _) (.cons (C.le_refl _) (.cons (C.le_refl _) (.cons (C.le_refl _) (.cons (C.le_refl _) (.cons (C.le_refl _) (.cons C.le_nil .nil))))))))))) .nil) rfl (nb rfl))) ?_
                        refine DW.go (OpR.plain rfl (r_bin rfl rfl (nb rfl) rfl (run_str_add _ _ (by first | omega | (simp only [rows_length] at *; omega) | (simp only [ByteArray.size_append, sz1, sz2, sz4, sz8, sz12, Int.toNat_zero, Int.toNat_one] at *; omega))))) ?_
                        refine DW.go (OpR.plain rfl (r_bin rfl rfl (nb rfl) rfl (run_str_add _ _ (by first | omega | (simp only [rows_length] at *; omega) | (simp only [ByteArray.size_append, sz1, sz2, sz4, sz8, sz12, Int.toNat_zero, Int.toNat_one] at *; omega))))) ?_
                        refine DW.go (OpR.plain rfl (r_assign rfl (nb rfl) (by rintro _ ⟨⟩))) ?_
                        refine DW.fin mixed (by kernel_rfl) (by kernel_rfl) ?_
                        refine thenN ?_
                        refine AW.ret ?_
                        refine thenR ?_
                        refine fin_id (.inr rfl) (ends_of rfl (.tmp rfl .nil)) ?_ .nil rfl rfl rfl rfl
                        simp only [retA]
                        refine A.le_of_eq ?_
                        try (exfalso; omega)
                        try rw [Ex.pr_eq e]
                        try unfold prOp
                        repeat (first | rw [if_pos (by first | assumption | omega)] | rw [if_neg (by first | assumption | omega)])
                        try rfl
                        try (rw [show asksM e.op 0 = 3 by unfold asksM; repeat (first | rw [if_pos (by omega)] | rw [if_neg (by omega)])]; rfl)
                        try (rw [show asksM e.op 0 = 5 by unfold asksM; repeat (first | rw [if_pos (by omega)] | rw [if_neg (by omega)])]; rfl)
                      · have h36n := h36; try simp only [dtt, dff, bqi, bqf, bni, bnf, nt1, nf1, nt0, nf0, ne_eq, ilt, ile, rows_length] at h36n
                        refine AW.skip ?_
                        refine thenN ?_
                        refine AW.seq ?_
                        refine AW.draw ?_
                        first | refine DW.go (OpR.plain rfl (r_fieldAddr fo_27_0 (by decide) rfl (nb rfl))) ?_ | refine DW.go (OpR.plain rfl (r_fieldAddrp fo_27_0 (by decide) rfl (nb rfl))) ?_
                        first | refine DW.go (OpR.plain rfl (r_load ti_3 rfl rfl rfl (nb rfl))) ?_ | refine DW.go (OpR.plain rfl (r_loadp ti_3 rfl rfl (nb rfl))) ?_
                        refine DW.go (OpR.plain rfl (r_callFun (rop_s _) en_17 rfl rfl rfl rfl (.cons (A.le_refl _) .nil) rfl (nb rfl))) ?_
                        refine DW.go (OpR.plain rfl (r_bin rfl rfl (nb rfl) rfl (run_str_add _ _ (by first | omega | (simp only [rows_length] at *; omega) | (simp only [ByteArray.size_append, sz1, sz2, sz4, sz8, sz12, Int.toNat_zero, Int.toNat_one] at *; omega))))) ?_
                        first | refine DW.go (OpR.plain rfl (r_load ti_27 rfl rfl (by simp only [loaded, mpc, mpn, if_true, ler, tks, tkz, tkn, dps, dpz, cap, nap, apn, lnc, lnn, zad, Nat.reduceAdd, adz]; rfl) (nb rfl))) ?_ | refine DW.go (OpR.plain rfl (r_loadp ti_27 rfl (by simp only [loaded, mpc, mpn, if_true, ler, tks, tkz, tkn, dps, dpz, cap, nap, apn, lnc, lnn, zad, Nat.reduceAdd, adz]; rfl) (nb rfl))) ?_
                        refine DW.go (OpR.plain rfl (r_callFun (hx (recs_of (by omega))) en_13 rfl rfl rfl rfl (.cons (by first | exact A.le_refl _ | (rw [part_over (by first | omega | (simp only [rows_length] at *; omega))]; exact A.le_agg (.cons (C.le_refl _) (.cons (C.le_refl _) (.cons (C.le_refl _) (.cons (C.le_refl _) (.cons (C.le_refl _) (.cons (C.le_refl _) (.cons (C.le_refl _) (.cons (C.le_refl _) (.cons C.le_nil .nil))))))))))) .nil) rfl (nb rfl))) ?_
                        refine DW.go (OpR.plain rfl (r_bin rfl rfl (nb rfl) rfl (run_str_add _ _ (by first | omega | (simp only [rows_length] at *; omega) | (simp only [ByteArray.size_append, sz1, sz2, sz4, sz8, sz12, Int.toNat_zero, Int.toNat_one] at *; omega))))) ?_
                        refine DW.go (OpR.plain rfl (r_bin rfl rfl (nb rfl) rfl (run_str_add _ _ (by first | omega | (simp only [rows_length] at *; omega) | (simp only [ByteArray.size_append, sz1, sz2, sz4, sz8, sz12, Int.toNat_zero, Int.toNat_one] at *; omega))))) ?_
                        refine DW.go (OpR.plain rfl (r_assign rfl (nb rfl) (by rintro _ ⟨⟩))) ?_
                        refine DW.fin mixed (by kernel_rfl) (by kernel_rfl) ?_
                        refine thenN ?_
                        refine AW.ret ?_
                        refine thenR ?_
                        refine fin_id (.inr rfl) (ends_of rfl (.tmp rfl .nil)) ?_ .nil rfl rfl rfl rfl
                        simp only [retA]
                        refine A.le_of_eq ?_
                        try (exfalso; omega)
                        try rw [Ex.pr_eq e]
                        try unfold prOp
                        repeat (first | rw [if_pos (by first | assumption | omega)] | rw [if_neg (by first | assumption | omega)])
                        try rfl
                        try (rw [show asksM e.op 0 = 3 by unfold asksM; repeat (first | rw [if_pos (by omega)] | rw [if_neg (by omega)])]; rfl)
                        try (rw [show asksM e.op 0 = 5 by unfold asksM; repeat (first | rw [if_pos (by omega)] | rw [if_neg (by omega)])]; rfl)
                    · have h35n := h35; try simp only [dtt, dff, bqi, bqf, bni, bnf, nt1, nf1, nt0, nf0, ne_eq, ilt, ile, rows_length] at h35n
                      refine AW.skip ?_
                      refine thenN ?_
                      refine AW.seq ?_
                      refine AW.region ?_
                      refine AL.go (OpR.plain rfl (r_assign rfl (nb rfl) (by rintro _ ⟨⟩; rfl))) ?_
                      refine AL.nil ?_
                      refine thenN ?_
                      refine AW.ret ?_
                      refine fin_id (.inr rfl) (ends_of rfl (.tmp rfl .nil)) ?_ .nil rfl rfl rfl rfl
                      simp only [retA]
                      refine A.le_of_eq ?_
                      try (exfalso; omega)
                      try rw [Ex.pr_eq e]
                      try unfold prOp
                      repeat (first | rw [if_pos (by first | assumption | omega)] | rw [if_neg (by first | assumption | omega)])
                      try rfl
                      try (rw [show asksM e.op 0 = 3 by unfold asksM; repeat (first | rw [if_pos (by omega)] | rw [if_neg (by omega)])]; rfl)
                      try (rw [show asksM e.op 0 = 5 by unfold asksM; repeat (first | rw [if_pos (by omega)] | rw [if_neg (by omega)])]; rfl)
                  · have h34n := h34; try simp only [dtt, dff, bqi, bqf, bni, bnf, nt1, nf1, nt0, nf0, ne_eq, ilt, ile, rows_length] at h34n
                    refine AL.go (.off rfl rfl (nb rfl) rfl (by rw [h34]; decide) rfl (nb rfl)) ?_
                    refine AL.go (.off rfl rfl (nb rfl) rfl (by rw [h34]; decide) rfl (nb rfl)) ?_
                    refine AL.go (.off rfl rfl (nb rfl) rfl (by rw [h34]; decide) rfl (nb rfl)) ?_
                    refine AL.go (OpR.plain rfl (r_pickFb rfl (h34) rfl (nb rfl) (by rintro _ ⟨⟩; rfl))) ?_
                    refine AL.nil ?_
                    refine thenN ?_
                    refine AW.condF rfl (rfl) ?_
                    refine AW.skip ?_
                    refine thenN ?_
                    refine AW.seq ?_
                    refine AW.region ?_
                    refine AL.go (OpR.plain rfl (r_assign rfl (nb rfl) (by rintro _ ⟨⟩; rfl))) ?_
                    refine AL.nil ?_
                    refine thenN ?_
                    refine AW.ret ?_
                    refine fin_id (.inr rfl) (ends_of rfl (.tmp rfl .nil)) ?_ .nil rfl rfl rfl rfl
                    simp only [retA]
                    refine A.le_of_eq ?_
                    try (exfalso; omega)
                    try rw [Ex.pr_eq e]
                    try unfold prOp
                    repeat (first | rw [if_pos (by first | assumption | omega)] | rw [if_neg (by first | assumption | omega)])
                    try rfl
                    try (rw [show asksM e.op 0 = 3 by unfold asksM; repeat (first | rw [if_pos (by omega)] | rw [if_neg (by omega)])]; rfl)
                    try (rw [show asksM e.op 0 = 5 by unfold asksM; repeat (first | rw [if_pos (by omega)] | rw [if_neg (by omega)])]; rfl)

end Go.Par
