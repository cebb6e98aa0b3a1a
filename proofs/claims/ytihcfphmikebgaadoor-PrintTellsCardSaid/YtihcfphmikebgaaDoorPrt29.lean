import Derived.Test.YtihcfphmikebgaaDoorPrt28
namespace Go.Par
open Go Go.Am Go.Proofs Go.RowKit
set_option linter.unusedVariables false
set_option linter.unusedSimpArgs false

abbrev liveT : ByteArray := ⟨#[40, 40, 97, 46, 120, 41, 32, 43, 32, 49, 41, 32, 42, 32, 50]⟩
abbrev liveE : Ex := exOf 9 [exOf 7 [exCol ⟨#[97]⟩ ⟨#[120]⟩, exVal ⟨1, 1, bs0⟩], exVal ⟨1, 2, bs0⟩]
theorem live_e : exprM 20007 liveT = (liveE, 0) := by kernel_rfl
theorem itoa_1 : itoaM 1 = ⟨#[49]⟩ := by simp [itoaM, Lib.itoa, Lib.decDigits]
theorem itoa_2 : itoaM 2 = ⟨#[50]⟩ := by simp [itoaM, Lib.itoa, Lib.decDigits]
theorem live_pr : liveE.pr = ⟨#[40, 97, 46, 120, 32, 43, 32, 49, 41, 32, 42, 32, 50]⟩ := by
  have e1 : (exVal ⟨1, 1, bs0⟩).pr = ⟨#[49]⟩ := by rw [Ex.pr_eq]; exact itoa_1
  have e2 : (exVal ⟨1, 2, bs0⟩).pr = ⟨#[50]⟩ := by rw [Ex.pr_eq]; exact itoa_2
  have e3 : (exCol ⟨#[97]⟩ ⟨#[120]⟩).pr = ⟨#[97, 46, 120]⟩ := by kernel_rfl
  have e4 : (exOf 7 [exCol ⟨#[97]⟩ ⟨#[120]⟩, exVal ⟨1, 1, bs0⟩]).pr = ⟨#[97, 46, 120, 32, 43, 32, 49]⟩ := by
    rw [Ex.pr_eq]
    show prOp 7 bs0 bs0 Val.null (exCol ⟨#[97]⟩ ⟨#[120]⟩) (exVal ⟨1, 1, bs0⟩) (exCol ⟨#[97]⟩ ⟨#[120]⟩).pr (exVal ⟨1, 1, bs0⟩).pr = _
    rw [e1, e3]; rfl
  rw [Ex.pr_eq]
  show prOp 9 bs0 bs0 Val.null (exOf 7 [exCol ⟨#[97]⟩ ⟨#[120]⟩, exVal ⟨1, 1, bs0⟩]) (exVal ⟨1, 2, bs0⟩) (exOf 7 [exCol ⟨#[97]⟩ ⟨#[120]⟩, exVal ⟨1, 1, bs0⟩]).pr (exVal ⟨1, 2, bs0⟩).pr = _
  rw [e4, e2]; rfl
theorem wfT_nil {e : Ex} (h : WfN e) (hl : e.l = []) : WfT e := .mk h (by rw [hl]; simp)
theorem live_tree : PrTree liveE ∧ liveE.pr.size ≤ 1000000000 := by
  refine pr_of_much (by kernel_rfl) (.mk ⟨by decide, by decide, by decide, by decide, by decide, by decide⟩ fun x hx => ?_)
  simp only [Ex.l, List.mem_cons, List.not_mem_nil, or_false] at hx
  rcases hx with rfl | rfl
  · refine .mk ⟨by decide, by decide, by decide, by decide, by decide, by decide⟩ fun x hx => ?_
    simp only [Ex.l, List.mem_cons, List.not_mem_nil, or_false] at hx
    rcases hx with rfl | rfl
    · exact wfT_nil ⟨by decide, by decide, by decide, by decide, by decide, by decide⟩ rfl
    · exact wfT_nil ⟨by decide, by decide, by decide, by decide, by decide, by decide⟩ rfl
  · exact wfT_nil ⟨by decide, by decide, by decide, by decide, by decide, by decide⟩ rfl
theorem live_x : Am.Fun Tryd.prog 7 [A.val (.string liveT)] (A.tup [exA liveE, A.i64 0]) := by
  have h := expr_s 20007 (ler _) liveT (by decide)
  rw [live_e] at h
  exact h

theorem en_12 : enters Tryd.prog 12 = true := by kernel_rfl
theorem en_14 : enters Tryd.prog 14 = true := by kernel_rfl
theorem en_15 : enters Tryd.prog 15 = true := by kernel_rfl
theorem en_6 : enters Tryd.prog 6 = true := by kernel_rfl
theorem en_7 : enters Tryd.prog 7 = true := by kernel_rfl
theorem en_8 : enters Tryd.prog 8 = true := by kernel_rfl
theorem ti_37 : tinf Tryd.prog 37 = some (12, 184, true, some (Value.agg (List.toArray [Value.slice none 0 0, Value.slice none 0 0, Value.int IntKind.i64 0, Value.string { data := #[] }, Value.string { data := #[] }, Value.int IntKind.i64 0, Value.int IntKind.i64 0, Value.int IntKind.i64 0, Value.int IntKind.i64 0, Value.string { data := #[] }, Value.slice none 0 0, Value.slice none 0 0]))) := by kernel_rfl

theorem code_p (n : Int) : Am.Spec Tryd.prog 8 [A.i64 n] [] (A.i64 n) [] := by
  refine spec_ofN (n := 4) Tryd.func8 rfl rfl (nb rfl) ?_
  show AW _ _ (⟨[(0, A.i64 n)], [], []⟩ : St) _
  refine AW.seq ?_
  refine AW.region ?_
  refine AL.go (OpR.plain rfl (r_assign rfl (nb rfl) (by rintro _ ⟨⟩; rfl))) ?_
  refine AL.nil ?_
  refine thenN ?_
  refine AW.seq ?_
  refine AW.region ?_
  refine AL.go (OpR.plain rfl (r_move rfl (nb rfl) (by rintro _ ⟨⟩))) ?_
  refine AL.go (OpR.plain rfl (r_assign rfl (nb rfl) (by rintro _ ⟨⟩))) ?_
  refine AL.nil ?_
  refine thenN ?_
  refine AW.ret ?_
  refine fin_id (.inr rfl) (ends_of rfl (.tmp rfl .nil)) ?_ .nil rfl rfl rfl rfl
  simp only [retA]
  exact A.le_refl _

theorem live_p  : Am.Spec Tryd.prog 6 [] [(90, pow)] (A.bool true) [(90, pow)] := by
  refine spec_ofN (n := 15) Tryd.func6 rfl rfl (nb rfl) ?_
  show AW _ _ (⟨[], [(90, pow)], []⟩ : St) _
  refine AW.seq ?_
  refine AW.region ?_
  refine AL.go (OpR.plain rfl (r_assign rfl (nb rfl) (by rintro _ ⟨⟩; rfl))) ?_
  refine AL.nil ?_
  refine thenN ?_
  refine AW.seq ?_
  refine AW.region ?_
  refine AL.go (OpR.plain rfl (r_callFun (live_x) en_7 rfl rfl rfl rfl (.cons (A.le_refl _) .nil) rfl (nb rfl))) ?_
  refine AL.go (OpR.plain rfl (r_move rfl (nb rfl) (by rintro _ ⟨⟩))) ?_
  refine AL.go (OpR.plain rfl (r_extract rfl rfl (nb rfl))) ?_
  refine AL.go (OpR.plain rfl (r_extract rfl rfl (nb rfl))) ?_
  refine AL.go (OpR.plain rfl (r_alloc 101 ti_27 zc_27 rfl rfl (nb rfl))) ?_
  refine AL.go (OpR.plain rfl (r_storeN ti_27 rfl rfl rfl rfl rfl (nb rfl) (by simp only [putAt, tks, tkz, tkn, dps, dpz, cap, nap, apn, lnc, lnn, zad, Nat.reduceAdd, adz]; rfl) (by rintro _ ⟨⟩))) ?_
  refine AL.go (OpR.plain rfl (r_assign rfl (nb rfl) (by rintro _ ⟨⟩))) ?_
  refine AL.nil ?_
  refine thenN ?_
  refine AW.seq ?_
  refine AW.region ?_
  refine AL.go (OpR.plain rfl (r_move rfl (nb rfl) (by rintro _ ⟨⟩))) ?_
  refine AL.go (OpR.plain rfl (r_callFun (code_p _) en_8 rfl rfl rfl rfl (.cons (A.le_refl _) .nil) rfl (nb rfl))) ?_
  refine AL.go (OpR.plain rfl (r_bin rfl rfl (nb rfl) rfl (run_int_eql _ _ _))) ?_
  refine AL.go (OpR.plain rfl (r_move rfl (nb rfl) (by rintro _ ⟨⟩))) ?_
  first | refine AL.go (OpR.onb rfl rfl (nb rfl) rfl (rfl) (r_load ti_27 rfl rfl (by simp only [loaded, mpc, mpn, if_true, ler, tks, tkz, tkn, dps, dpz, cap, nap, apn, lnc, lnn, zad, Nat.reduceAdd, adz]; rfl) (nb rfl))) ?_ | refine AL.go (OpR.onb rfl rfl (nb rfl) rfl (rfl) (r_loadp ti_27 rfl (by simp only [loaded, mpc, mpn, if_true, ler, tks, tkz, tkn, dps, dpz, cap, nap, apn, lnc, lnn, zad, Nat.reduceAdd, adz]; rfl) (nb rfl))) ?_
  refine AL.go (OpR.onb rfl rfl (nb rfl) rfl (rfl) (r_callId ((prs_all live_tree.1).1) en_9 rfl rfl rfl rfl (.cons (A.le_refl _) .nil) rfl (.cons rfl .nil) rfl rfl rfl (nb rfl))) ?_
  refine AL.go (OpR.onb rfl rfl (nb rfl) rfl (rfl) (r_bin rfl rfl (nb rfl) rfl (run_str_eql _ _))) ?_
  refine AL.go (OpR.plain rfl (r_pickTb rfl (rfl) rfl (nb rfl) (by rintro _ ⟨⟩))) ?_
  refine AL.go (OpR.plain rfl (r_assign rfl (nb rfl) (by rintro _ ⟨⟩))) ?_
  refine AL.nil ?_
  refine thenN ?_
  refine AW.ret ?_
  refine fin_id (.inr rfl) (ends_of rfl (.tmp rfl .nil)) ?_ (.cons rfl (Ob.le_refl _) .nil) rfl rfl rfl rfl
  simp only [retA]
  exact A.le_of_eq (by rw [decide_eq_true live_pr])

set_option maxHeartbeats 4000000 in
theorem tells_p (e : Ex) (hw : WfT e) (q : Qy) (hQ : WfQ q) (op : Int) : Am.Spec Tryd.prog 4 [exA e, qyA q, A.i64 op] [(90, pow)] (A.bool true) [(90, pow)] := by
  refine spec_ofN (n := 45) Tryd.func4 rfl rfl (nb rfl) ?_
  show AW _ _ (⟨[(0, exA e), (1, qyA q), (2, A.i64 op)], [(90, pow)], []⟩ : St) _
  refine AW.seq ?_
  refine AW.region ?_
  refine AL.go (OpR.plain rfl (r_box 101 rfl rfl rfl (nb rfl) (by rintro _ ⟨⟩))) ?_
  refine AL.go (OpR.plain rfl (r_box 102 rfl rfl rfl (nb rfl) (by rintro _ ⟨⟩))) ?_
  refine AL.go (OpR.plain rfl (r_assign rfl (nb rfl) (by rintro _ ⟨⟩; rfl))) ?_
  refine AL.nil ?_
  refine thenN ?_
  refine AW.seq ?_
  refine AW.seq ?_
  refine AW.region ?_
  first | refine AL.go (OpR.plain rfl (r_load ti_27 rfl rfl (by simp only [loaded, mpc, mpn, if_true, ler, tks, tkz, tkn, dps, dpz, cap, nap, apn, lnc, lnn, zad, Nat.reduceAdd, adz]; rfl) (nb rfl))) ?_ | refine AL.go (OpR.plain rfl (r_loadp ti_27 rfl (by simp only [loaded, mpc, mpn, if_true, ler, tks, tkz, tkn, dps, dpz, cap, nap, apn, lnc, lnn, zad, Nat.reduceAdd, adz]; rfl) (nb rfl))) ?_
  refine AL.go (OpR.plain rfl (r_callFun (much_p _ hw) en_11 rfl rfl rfl rfl (.cons (A.le_refl _) .nil) rfl (nb rfl))) ?_
  refine AL.go (OpR.plain rfl (r_move rfl (nb rfl) (by rintro _ ⟨⟩))) ?_
  refine AL.ifb (t := 9) rfl (fun h1 => ?_) (fun h1 => ?_)
  · have h1n := h1; try simp only [dtt, dff, bqi, bqf, bni, bnf, nt1, nf1, nt0, nf0, ne_eq, ilt, ile] at h1n
    refine AL.go (.off rfl rfl (nb rfl) rfl (by rw [h1]; decide) rfl (nb rfl)) ?_
    refine AL.go (.off rfl rfl (nb rfl) rfl (by rw [h1]; decide) rfl (nb rfl)) ?_
    refine AL.go (OpR.plain rfl (r_pickTb rfl (h1) rfl (nb rfl) (by rintro _ ⟨⟩; rfl))) ?_
    refine AL.nil ?_
    refine thenN ?_
    refine AW.condT rfl (rfl) ?_
    refine AW.seq ?_
    refine AW.region ?_
    refine AL.go (OpR.plain rfl (r_callId (live_p) en_6 rfl rfl rfl rfl .nil rfl (.cons rfl .nil) rfl rfl rfl (nb rfl))) ?_
    refine AL.go (OpR.plain rfl (r_assign rfl (nb rfl) (by rintro _ ⟨⟩))) ?_
    refine AL.nil ?_
    refine thenN ?_
    refine AW.ret ?_
    refine thenR ?_
    refine fin_id (.inr rfl) (ends_of rfl (.tmp rfl .nil)) ?_ (.cons rfl (Ob.le_refl _) .nil) rfl rfl rfl rfl
    simp only [retA]
    exact A.le_of_eq (by first | rfl | simp)
  · have h1n := h1; try simp only [dtt, dff, bqi, bqf, bni, bnf, nt1, nf1, nt0, nf0, ne_eq, ilt, ile] at h1n
    first | refine AL.go (OpR.onb rfl rfl (nb rfl) rfl (h1) (r_load ti_37 rfl rfl (by simp only [loaded, mpc, mpn, if_true, ler, tks, tkz, tkn, dps, dpz, cap, nap, apn, lnc, lnn, zad, Nat.reduceAdd, adz]; rfl) (nb rfl))) ?_ | refine AL.go (OpR.onb rfl rfl (nb rfl) rfl (h1) (r_loadp ti_37 rfl (by simp only [loaded, mpc, mpn, if_true, ler, tks, tkz, tkn, dps, dpz, cap, nap, apn, lnc, lnn, zad, Nat.reduceAdd, adz]; rfl) (nb rfl))) ?_
    refine AL.go (OpR.onb rfl rfl (nb rfl) rfl (h1) (r_callFun (muchq_p _ hQ) en_12 rfl rfl rfl rfl (.cons (A.le_refl _) .nil) rfl (nb rfl))) ?_
    refine AL.go (OpR.plain rfl (r_pickFb rfl (h1) rfl (nb rfl) (by rintro _ ⟨⟩))) ?_
    refine AL.nil ?_
    refine thenN ?_
    refine AW.condb rfl (fun h2 => ?_) (fun h2 => ?_)
    · have h2n := h2; try simp only [dtt, dff, bqi, bqf, bni, bnf, nt1, nf1, nt0, nf0, ne_eq, ilt, ile] at h2n
      refine AW.seq ?_
      refine AW.region ?_
      refine AL.go (OpR.plain rfl (r_callId (live_p) en_6 rfl rfl rfl rfl .nil rfl (.cons rfl .nil) rfl rfl rfl (nb rfl))) ?_
      refine AL.go (OpR.plain rfl (r_assign rfl (nb rfl) (by rintro _ ⟨⟩))) ?_
      refine AL.nil ?_
      refine thenN ?_
      refine AW.ret ?_
      refine thenR ?_
      refine fin_id (.inr rfl) (ends_of rfl (.tmp rfl .nil)) ?_ (.cons rfl (Ob.le_refl _) .nil) rfl rfl rfl rfl
      simp only [retA]
      exact A.le_of_eq (by first | rfl | simp)
    · have h2n := h2; try simp only [dtt, dff, bqi, bqf, bni, bnf, nt1, nf1, nt0, nf0, ne_eq, ilt, ile] at h2n
      refine AW.skip ?_
      refine thenN ?_
      refine AW.seq ?_
      refine AW.draw ?_
      have hE := pr_of_much (e := e) (by first | assumption | exact h2n | exact h1n) hw
      have hV := hE.1
      have hK := qok_of_much (q := q) (by first | assumption | exact h2n) hQ
      obtain ⟨hPE, hPS⟩ : PrOk e ∧ True := by cases hV with | mk h _ => exact ⟨h, trivial⟩
      first | refine DW.go (OpR.plain rfl (r_load ti_27 rfl rfl (by simp only [loaded, mpc, mpn, if_true, ler, tks, tkz, tkn, dps, dpz, cap, nap, apn, lnc, lnn, zad, Nat.reduceAdd, adz]; rfl) (nb rfl))) ?_ | refine DW.go (OpR.plain rfl (r_loadp ti_27 rfl (by simp only [loaded, mpc, mpn, if_true, ler, tks, tkz, tkn, dps, dpz, cap, nap, apn, lnc, lnn, zad, Nat.reduceAdd, adz]; rfl) (nb rfl))) ?_
      refine DW.go (OpR.plain rfl (r_callId ((prs_all hE.1).1) en_9 rfl rfl rfl rfl (.cons (A.le_refl _) .nil) rfl (.cons rfl .nil) rfl rfl rfl (nb rfl))) ?_
      first | refine DW.go (OpR.plain rfl (r_load ti_27 rfl rfl (by simp only [loaded, mpc, mpn, if_true, ler, tks, tkz, tkn, dps, dpz, cap, nap, apn, lnc, lnn, zad, Nat.reduceAdd, adz]; rfl) (nb rfl))) ?_ | refine DW.go (OpR.plain rfl (r_loadp ti_27 rfl (by simp only [loaded, mpc, mpn, if_true, ler, tks, tkz, tkn, dps, dpz, cap, nap, apn, lnc, lnn, zad, Nat.reduceAdd, adz]; rfl) (nb rfl))) ?_
      refine DW.go (OpR.plain rfl (r_callFun ((prs_all hE.1).2) en_13 rfl rfl rfl rfl (.cons (A.le_refl _) .nil) rfl (nb rfl))) ?_
      refine DW.go (OpR.plain rfl (r_bin rfl rfl (nb rfl) rfl (run_str_eql _ _))) ?_
      refine DW.go (OpR.plain rfl (r_move rfl (nb rfl) (by rintro _ ⟨⟩))) ?_
      first | refine DW.go (OpR.onb rfl rfl (nb rfl) rfl (decide_eq_true rfl) (r_load ti_37 rfl rfl (by simp only [loaded, mpc, mpn, if_true, ler, tks, tkz, tkn, dps, dpz, cap, nap, apn, lnc, lnn, zad, Nat.reduceAdd, adz]; rfl) (nb rfl))) ?_ | refine DW.go (OpR.onb rfl rfl (nb rfl) rfl (decide_eq_true rfl) (r_loadp ti_37 rfl (by simp only [loaded, mpc, mpn, if_true, ler, tks, tkz, tkn, dps, dpz, cap, nap, apn, lnc, lnn, zad, Nat.reduceAdd, adz]; rfl) (nb rfl))) ?_
      refine DW.go (OpR.onb rfl rfl (nb rfl) rfl (decide_eq_true rfl) (r_callId (query_p q hK) en_14 rfl rfl rfl rfl (.cons (A.le_refl _) .nil) rfl (.cons rfl .nil) rfl rfl rfl (nb rfl))) ?_
      first | refine DW.go (OpR.onb rfl rfl (nb rfl) rfl (decide_eq_true rfl) (r_load ti_37 rfl rfl (by simp only [loaded, mpc, mpn, if_true, ler, tks, tkz, tkn, dps, dpz, cap, nap, apn, lnc, lnn, zad, Nat.reduceAdd, adz]; rfl) (nb rfl))) ?_ | refine DW.go (OpR.onb rfl rfl (nb rfl) rfl (decide_eq_true rfl) (r_loadp ti_37 rfl (by simp only [loaded, mpc, mpn, if_true, ler, tks, tkz, tkn, dps, dpz, cap, nap, apn, lnc, lnn, zad, Nat.reduceAdd, adz]; rfl) (nb rfl))) ?_
      refine DW.go (OpR.onb rfl rfl (nb rfl) rfl (decide_eq_true rfl) (r_callFun (rquery_p q hK) en_15 rfl rfl rfl rfl (.cons (A.le_refl _) .nil) rfl (nb rfl))) ?_
      refine DW.go (OpR.onb rfl rfl (nb rfl) rfl (decide_eq_true rfl) (r_bin rfl rfl (nb rfl) rfl (run_str_eql _ _))) ?_
      refine DW.go (OpR.plain rfl (r_pickTb rfl (decide_eq_true rfl) rfl (nb rfl) (by rintro _ ⟨⟩))) ?_
      refine DW.go (OpR.plain rfl (r_move rfl (nb rfl) (by rintro _ ⟨⟩))) ?_
      refine DW.go (OpR.onb rfl rfl (nb rfl) rfl (decide_eq_true rfl) (r_move rfl (nb rfl) (by rintro _ ⟨⟩))) ?_
      refine DW.go (OpR.onb rfl rfl (nb rfl) rfl (decide_eq_true rfl) (r_callFun (op_s _) en_16 rfl rfl rfl rfl (.cons (A.le_refl _) .nil) rfl (nb rfl))) ?_
      refine DW.go (OpR.onb rfl rfl (nb rfl) rfl (decide_eq_true rfl) (r_move rfl (nb rfl) (by rintro _ ⟨⟩))) ?_
      refine DW.go (OpR.onb rfl rfl (nb rfl) rfl (decide_eq_true rfl) (r_callFun (rop_s _) en_17 rfl rfl rfl rfl (.cons (A.le_refl _) .nil) rfl (nb rfl))) ?_
      refine DW.go (OpR.onb rfl rfl (nb rfl) rfl (decide_eq_true rfl) (r_bin rfl rfl (nb rfl) rfl (run_str_eql _ _))) ?_
      refine DW.go (OpR.plain rfl (r_pickTb rfl (decide_eq_true rfl) rfl (nb rfl) (by rintro _ ⟨⟩))) ?_
      refine DW.go (OpR.plain rfl (r_move rfl (nb rfl) (by rintro _ ⟨⟩))) ?_
      first | refine DW.go (OpR.onb rfl rfl (nb rfl) rfl (decide_eq_true rfl) (r_fieldAddr fo_27_5 (by decide) rfl (nb rfl))) ?_ | refine DW.go (OpR.onb rfl rfl (nb rfl) rfl (decide_eq_true rfl) (r_fieldAddrp fo_27_5 (by decide) rfl (nb rfl))) ?_
      first | refine DW.go (OpR.onb rfl rfl (nb rfl) rfl (decide_eq_true rfl) (r_load ti_24 rfl rfl (by simp only [loaded, mpc, mpn, if_true, ler, tks, tkz, tkn, dps, dpz, cap, nap, apn, lnc, lnn, zad, Nat.reduceAdd, adz]; rfl) (nb rfl))) ?_ | refine DW.go (OpR.onb rfl rfl (nb rfl) rfl (decide_eq_true rfl) (r_loadp ti_24 rfl (by simp only [loaded, mpc, mpn, if_true, ler, tks, tkz, tkn, dps, dpz, cap, nap, apn, lnc, lnn, zad, Nat.reduceAdd, adz]; rfl) (nb rfl))) ?_
      refine DW.go (OpR.onb rfl rfl (nb rfl) rfl (decide_eq_true rfl) (r_callId (val_p _ hPE.lo hPE.hi hPE.s) en_18 rfl rfl rfl rfl (.cons (A.le_refl _) .nil) rfl (.cons rfl .nil) rfl rfl rfl (nb rfl))) ?_
      first | refine DW.go (OpR.onb rfl rfl (nb rfl) rfl (decide_eq_true rfl) (r_fieldAddr fo_27_5 (by decide) rfl (nb rfl))) ?_ | refine DW.go (OpR.onb rfl rfl (nb rfl) rfl (decide_eq_true rfl) (r_fieldAddrp fo_27_5 (by decide) rfl (nb rfl))) ?_
      first | refine DW.go (OpR.onb rfl rfl (nb rfl) rfl (decide_eq_true rfl) (r_load ti_24 rfl rfl (by simp only [loaded, mpc, mpn, if_true, ler, tks, tkz, tkn, dps, dpz, cap, nap, apn, lnc, lnn, zad, Nat.reduceAdd, adz]; rfl) (nb rfl))) ?_ | refine DW.go (OpR.onb rfl rfl (nb rfl) rfl (decide_eq_true rfl) (r_loadp ti_24 rfl (by simp only [loaded, mpc, mpn, if_true, ler, tks, tkz, tkn, dps, dpz, cap, nap, apn, lnc, lnn, zad, Nat.reduceAdd, adz]; rfl) (nb rfl))) ?_
      refine DW.go (OpR.onb rfl rfl (nb rfl) rfl (decide_eq_true rfl) (r_callFun (rval_p _ hPE.lo hPE.hi hPE.s) en_19 rfl rfl rfl rfl (.cons (A.le_refl _) .nil) rfl (nb rfl))) ?_
      refine DW.go (OpR.onb rfl rfl (nb rfl) rfl (decide_eq_true rfl) (r_bin rfl rfl (nb rfl) rfl (run_str_eql _ _))) ?_
      refine DW.go (OpR.plain rfl (r_pickTb rfl (decide_eq_true rfl) rfl (nb rfl) (by rintro _ ⟨⟩))) ?_
      refine DW.go (OpR.plain rfl (r_move rfl (nb rfl) (by rintro _ ⟨⟩))) ?_
      refine DW.go (OpR.onb rfl rfl (nb rfl) rfl (decide_eq_true rfl) (r_callId (live_p) en_6 rfl rfl rfl rfl .nil rfl (.cons rfl .nil) rfl rfl rfl (nb rfl))) ?_
      refine DW.go (OpR.plain rfl (r_pickTb rfl (decide_eq_true rfl) rfl (nb rfl) (by rintro _ ⟨⟩))) ?_
      refine DW.go (OpR.plain rfl (r_assign rfl (nb rfl) (by rintro _ ⟨⟩))) ?_
      refine DW.fin mixed (by kernel_rfl) (by kernel_rfl) ?_
      refine thenN ?_
      refine AW.ret ?_
      refine fin_id (.inr rfl) (ends_of rfl (.tmp rfl .nil)) ?_ (.cons rfl (Ob.le_refl _) .nil) rfl rfl rfl rfl
      simp only [retA]
      exact A.le_of_eq (by first | rfl | simp)

end Go.Par
