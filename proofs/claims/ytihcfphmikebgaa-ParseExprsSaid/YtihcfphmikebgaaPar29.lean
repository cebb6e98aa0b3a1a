import Derived.Test.YtihcfphmikebgaaPar28
namespace Go.Par
open Go Go.Am Go.Proofs Go.RowKit
set_option linter.unusedVariables false
set_option linter.unusedSimpArgs false

theorem rexpr_s' (n : Nat) (hn : 20007 ≤ n) (s : ByteArray) (hs : s.size ≤ 100000) : Am.Fun Try.prog 6 [A.val (.string s)] (A.tup [exA (exprM n s).1, A.i64 (exprM n s).2]) := by
  rw [exprs_same]; exact rexpr_s n hn s hs
theorem join_1 : Am.Fun Try.prog 7 [A.val (.string ⟨#[106, 111, 105, 110]⟩)] (A.i64 1) := join_s _
theorem join_2 : Am.Fun Try.prog 7 [A.val (.string ⟨#[108, 101, 102, 116]⟩)] (A.i64 2) := join_s _
theorem join_3 : Am.Fun Try.prog 7 [A.val (.string ⟨#[115, 101, 109, 105]⟩)] (A.i64 3) := join_s _
theorem join_4 : Am.Fun Try.prog 7 [A.val (.string ⟨#[97, 110, 116, 105]⟩)] (A.i64 4) := join_s _

theorem en_4 : enters Try.prog 4 = true := by kernel_rfl
theorem en_5 : enters Try.prog 5 = true := by kernel_rfl
theorem en_6 : enters Try.prog 6 = true := by kernel_rfl
theorem en_7 : enters Try.prog 7 = true := by kernel_rfl
theorem en_9 : enters Try.prog 9 = true := by kernel_rfl

set_option maxHeartbeats 4000000 in
theorem law_s (n : Nat) (hn : 20007 ≤ n) (hlive : Am.Fun Try.prog 4 [] (A.bool true)) (s : ByteArray) : Am.Spec Try.prog 3 [A.val (.string s)] [] (A.bool true) [] := by
  refine spec_ofN (n := 74) Try.func3 rfl rfl (nb rfl) ?_
  show AW _ _ (⟨[(0, A.val (.string s))], [], []⟩ : St) _
  refine AW.seq ?_
  refine AW.region ?_
  refine AL.go (OpR.plain rfl (r_assign rfl (nb rfl) (by rintro _ ⟨⟩; rfl))) ?_
  refine AL.nil ?_
  refine thenN ?_
  refine AW.seq ?_
  refine AW.seq ?_
  refine AW.region ?_
  refine AL.go (OpR.plain rfl (r_move rfl (nb rfl) (by rintro _ ⟨⟩))) ?_
  refine AL.go (OpR.plain rfl (r_lens un_9 rfl (nb rfl))) ?_
  refine AL.go (OpR.plain rfl (r_bin rfl rfl (nb rfl) rfl (run_int_gtr _ _ _))) ?_
  refine AL.nil ?_
  refine thenN ?_
  refine AW.condb rfl (fun h1 => ?_) (fun h1 => ?_)
  · have h1n := h1; try simp only [dtt, dff, bqi, bqf, bni, bnf, nt1, nf1, nt0, nf0, ne_eq, ilt, ile] at h1n
    refine AW.seq ?_
    refine AW.region ?_
    refine AL.go (OpR.plain rfl (r_callFun (hlive) en_4 rfl rfl rfl rfl .nil rfl (nb rfl))) ?_
    refine AL.go (OpR.plain rfl (r_assign rfl (nb rfl) (by rintro _ ⟨⟩))) ?_
    refine AL.nil ?_
    refine thenN ?_
    refine AW.ret ?_
    refine thenR ?_
    refine fin_id (.inr rfl) (ends_of rfl (.tmp rfl .nil)) ?_ .nil rfl rfl rfl rfl
    simp only [retA]
    first | exact A.le_refl _ | (refine A.le_of_eq ?_; simp_all [joinOf]; done) | (exfalso; simp_all [joinOf]; done)
  · have h1n := h1; try simp only [dtt, dff, bqi, bqf, bni, bnf, nt1, nf1, nt0, nf0, ne_eq, ilt, ile] at h1n
    refine AW.skip ?_
    refine thenN ?_
    refine AW.seq ?_
    refine AW.region ?_
    refine AL.go (OpR.plain rfl (r_move rfl (nb rfl) (by rintro _ ⟨⟩))) ?_
    refine AL.go (OpR.plain rfl (r_callFun (expr_s n hn s (by omega)) en_5 rfl rfl rfl rfl (.cons (A.le_refl _) .nil) rfl (nb rfl))) ?_
    refine AL.go (OpR.plain rfl (r_move rfl (nb rfl) (by rintro _ ⟨⟩))) ?_
    refine AL.go (OpR.plain rfl (r_extract rfl rfl (nb rfl))) ?_
    refine AL.go (OpR.plain rfl (r_extract rfl rfl (nb rfl))) ?_
    refine AL.go (OpR.plain rfl (r_alloc 101 ti_27 zc_27 rfl rfl (nb rfl))) ?_
    refine AL.go (OpR.plain rfl (r_storeN ti_27 rfl rfl rfl rfl rfl (nb rfl) (by simp only [putAt, tks, tkz, tkn, dps, dpz, cap, nap, apn, lnc, lnn, zad, Nat.reduceAdd, adz]; rfl) (by rintro _ ⟨⟩))) ?_
    refine AL.go (OpR.plain rfl (r_assign rfl (nb rfl) (by rintro _ ⟨⟩))) ?_
    refine AL.nil ?_
    refine thenN ?_
    refine AW.seq ?_
    refine AW.region ?_
    refine AL.go (OpR.plain rfl (r_move rfl (nb rfl) (by rintro _ ⟨⟩))) ?_
    refine AL.go (OpR.plain rfl (r_callFun (rexpr_s' n hn s (by omega)) en_6 rfl rfl rfl rfl (.cons (A.le_refl _) .nil) rfl (nb rfl))) ?_
    refine AL.go (OpR.plain rfl (r_move rfl (nb rfl) (by rintro _ ⟨⟩))) ?_
    refine AL.go (OpR.plain rfl (r_extract rfl rfl (nb rfl))) ?_
    refine AL.go (OpR.plain rfl (r_extract rfl rfl (nb rfl))) ?_
    refine AL.go (OpR.plain rfl (r_alloc 102 ti_27 zc_27 rfl rfl (nb rfl))) ?_
    refine AL.go (OpR.plain rfl (r_storeN ti_27 rfl rfl rfl rfl rfl (nb rfl) (by simp only [putAt, tks, tkz, tkn, dps, dpz, cap, nap, apn, lnc, lnn, zad, Nat.reduceAdd, adz]; rfl) (by rintro _ ⟨⟩))) ?_
    refine AL.go (OpR.plain rfl (r_assign rfl (nb rfl) (by rintro _ ⟨⟩))) ?_
    refine AL.nil ?_
    refine thenN ?_
    refine AW.seq ?_
    refine AW.region ?_
    refine AL.go (OpR.plain rfl (r_callFun (join_1) en_7 rfl rfl rfl rfl (.cons (A.le_refl _) .nil) rfl (nb rfl))) ?_
    refine AL.go (OpR.plain rfl (r_bin (r := .bool true) rfl rfl (nb rfl) rfl (fun w => run_int_eql _ _ _ w))) ?_
    refine AL.go (OpR.plain rfl (r_move rfl (nb rfl) (by rintro _ ⟨⟩))) ?_
    refine AL.go (OpR.onb rfl rfl (nb rfl) rfl (rfl) (r_callFun (join_2) en_7 rfl rfl rfl rfl (.cons (A.le_refl _) .nil) rfl (nb rfl))) ?_
    refine AL.go (OpR.onb rfl rfl (nb rfl) rfl (rfl) (r_bin (r := .bool true) rfl rfl (nb rfl) rfl (fun w => run_int_eql _ _ _ w))) ?_
    refine AL.go (OpR.plain rfl (r_pickTb rfl (rfl) rfl (nb rfl) (by rintro _ ⟨⟩))) ?_
    refine AL.go (OpR.plain rfl (r_move rfl (nb rfl) (by rintro _ ⟨⟩))) ?_
    refine AL.go (OpR.onb rfl rfl (nb rfl) rfl (rfl) (r_callFun (join_3) en_7 rfl rfl rfl rfl (.cons (A.le_refl _) .nil) rfl (nb rfl))) ?_
    refine AL.go (OpR.onb rfl rfl (nb rfl) rfl (rfl) (r_bin (r := .bool true) rfl rfl (nb rfl) rfl (fun w => run_int_eql _ _ _ w))) ?_
    refine AL.go (OpR.plain rfl (r_pickTb rfl (rfl) rfl (nb rfl) (by rintro _ ⟨⟩))) ?_
    refine AL.go (OpR.plain rfl (r_move rfl (nb rfl) (by rintro _ ⟨⟩))) ?_
    refine AL.go (OpR.onb rfl rfl (nb rfl) rfl (rfl) (r_callFun (join_4) en_7 rfl rfl rfl rfl (.cons (A.le_refl _) .nil) rfl (nb rfl))) ?_
    refine AL.go (OpR.onb rfl rfl (nb rfl) rfl (rfl) (r_bin (r := .bool true) rfl rfl (nb rfl) rfl (fun w => run_int_eql _ _ _ w))) ?_
    refine AL.go (OpR.plain rfl (r_pickTb rfl (rfl) rfl (nb rfl) (by rintro _ ⟨⟩))) ?_
    refine AL.go (OpR.plain rfl (r_assign rfl (nb rfl) (by rintro _ ⟨⟩))) ?_
    refine AL.nil ?_
    refine thenN ?_
    refine AW.seq ?_
    refine AW.region ?_
    refine AL.go (OpR.plain rfl (r_move rfl (nb rfl) (by rintro _ ⟨⟩))) ?_
    refine AL.go (OpR.plain rfl (r_bin rfl rfl (nb rfl) rfl (run_str_eql _ _))) ?_
    refine AL.go (OpR.plain rfl (r_move rfl (nb rfl) (by rintro _ ⟨⟩))) ?_
    refine AL.ifb (t := 39) rfl (fun h2 => ?_) (fun h2 => ?_)
    · have h2n := h2; try simp only [dtt, dff, bqi, bqf, bni, bnf, nt1, nf1, nt0, nf0, ne_eq, ilt, ile] at h2n
      refine AL.go (.off rfl rfl (nb rfl) rfl (by rw [h2]; decide) rfl (nb rfl)) ?_
      refine AL.go (.off rfl rfl (nb rfl) rfl (by rw [h2]; decide) rfl (nb rfl)) ?_
      refine AL.go (OpR.plain rfl (r_pickTb rfl (h2) rfl (nb rfl) (by rintro _ ⟨⟩; rfl))) ?_
      refine AL.go (OpR.plain rfl (r_move rfl (nb rfl) (by rintro _ ⟨⟩))) ?_
      refine AL.go (.off rfl rfl (nb rfl) rfl (by decide) rfl (nb rfl)) ?_
      refine AL.go (.off rfl rfl (nb rfl) rfl (by decide) rfl (nb rfl)) ?_
      refine AL.go (OpR.plain rfl (r_pickTb rfl (rfl) rfl (nb rfl) (by rintro _ ⟨⟩; rfl))) ?_
      refine AL.go (OpR.plain rfl (r_move rfl (nb rfl) (by rintro _ ⟨⟩))) ?_
      refine AL.go (.off rfl rfl (nb rfl) rfl (by decide) rfl (nb rfl)) ?_
      refine AL.go (.off rfl rfl (nb rfl) rfl (by decide) rfl (nb rfl)) ?_
      refine AL.go (OpR.plain rfl (r_pickTb rfl (rfl) rfl (nb rfl) (by rintro _ ⟨⟩; rfl))) ?_
      refine AL.go (OpR.plain rfl (r_assign rfl (nb rfl) (by rintro _ ⟨⟩))) ?_
      refine AL.nil ?_
      refine thenN ?_
      refine AW.seq ?_
      refine AW.region ?_
      first | refine AL.go (OpR.plain rfl (r_load ti_27 rfl rfl (by simp only [loaded, mpc, mpn, if_true, ler, tks, tkz, tkn, dps, dpz, cap, nap, apn, lnc, lnn, zad, Nat.reduceAdd, adz]; rfl) (nb rfl))) ?_ | refine AL.go (OpR.plain rfl (r_loadp ti_27 rfl (by simp only [loaded, mpc, mpn, if_true, ler, tks, tkz, tkn, dps, dpz, cap, nap, apn, lnc, lnn, zad, Nat.reduceAdd, adz]; rfl) (nb rfl))) ?_
      first | refine AL.go (OpR.plain rfl (r_load ti_27 rfl rfl (by simp only [loaded, mpc, mpn, if_true, ler, tks, tkz, tkn, dps, dpz, cap, nap, apn, lnc, lnn, zad, Nat.reduceAdd, adz]; rfl) (nb rfl))) ?_ | refine AL.go (OpR.plain rfl (r_loadp ti_27 rfl (by simp only [loaded, mpc, mpn, if_true, ler, tks, tkz, tkn, dps, dpz, cap, nap, apn, lnc, lnn, zad, Nat.reduceAdd, adz]; rfl) (nb rfl))) ?_
      refine AL.go (OpR.plain rfl (r_callFun (same_all (exprM_thin n s)) en_8 rfl rfl rfl rfl (.cons (A.le_refl _) (.cons (A.le_refl _) .nil)) rfl (nb rfl))) ?_
      refine AL.go (OpR.plain rfl (r_move rfl (nb rfl) (by rintro _ ⟨⟩))) ?_
      refine AL.go (OpR.onb rfl rfl (nb rfl) rfl (rfl) (r_move rfl (nb rfl) (by rintro _ ⟨⟩))) ?_
      refine AL.go (OpR.onb rfl rfl (nb rfl) rfl (rfl) (r_callFun (code_s _) en_9 rfl rfl rfl rfl (.cons (A.le_refl _) .nil) rfl (nb rfl))) ?_
      refine AL.go (OpR.onb rfl rfl (nb rfl) rfl (rfl) (r_move rfl (nb rfl) (by rintro _ ⟨⟩))) ?_
      refine AL.go (OpR.onb rfl rfl (nb rfl) rfl (rfl) (r_bin (r := .bool true) rfl rfl (nb rfl) rfl (fun w => (run_int_eql _ _ _ w).trans (by simp)))) ?_
      refine AL.go (OpR.plain rfl (r_pickTb rfl (rfl) rfl (nb rfl) (by rintro _ ⟨⟩))) ?_
      refine AL.go (OpR.plain rfl (r_move rfl (nb rfl) (by rintro _ ⟨⟩))) ?_
      refine AL.go (OpR.onb rfl rfl (nb rfl) rfl (rfl) (r_move rfl (nb rfl) (by rintro _ ⟨⟩))) ?_
      refine AL.go (OpR.plain rfl (r_pickTb rfl (rfl) rfl (nb rfl) (by rintro _ ⟨⟩))) ?_
      refine AL.go (OpR.plain rfl (r_move rfl (nb rfl) (by rintro _ ⟨⟩))) ?_
      refine AL.go (OpR.onb rfl rfl (nb rfl) rfl (rfl) (r_move rfl (nb rfl) (by rintro _ ⟨⟩))) ?_
      refine AL.go (OpR.onb rfl rfl (nb rfl) rfl (rfl) (r_move rfl (nb rfl) (by rintro _ ⟨⟩))) ?_
      refine AL.go (.off rfl rfl (nb rfl) rfl (by decide) rfl (nb rfl)) ?_
      refine AL.go (.off rfl rfl (nb rfl) rfl (by decide) rfl (nb rfl)) ?_
      refine AL.go (.off rfl rfl (nb rfl) rfl (by decide) rfl (nb rfl)) ?_
      refine AL.go (OpR.onb rfl rfl (nb rfl) rfl (rfl) (r_pickTb rfl (rfl) rfl (nb rfl) (by rintro _ ⟨⟩; rfl))) ?_
      refine AL.go (OpR.plain rfl (r_pickTb rfl (rfl) rfl (nb rfl) (by rintro _ ⟨⟩))) ?_
      refine AL.go (OpR.plain rfl (r_move rfl (nb rfl) (by rintro _ ⟨⟩))) ?_
      refine AL.go (OpR.onb rfl rfl (nb rfl) rfl (rfl) (r_callFun (hlive) en_4 rfl rfl rfl rfl .nil rfl (nb rfl))) ?_
      refine AL.go (OpR.plain rfl (r_pickTb rfl (rfl) rfl (nb rfl) (by rintro _ ⟨⟩))) ?_
      refine AL.go (OpR.plain rfl (r_assign rfl (nb rfl) (by rintro _ ⟨⟩))) ?_
      refine AL.nil ?_
      refine thenN ?_
      refine AW.ret ?_
      refine fin_id (.inr rfl) (ends_of rfl (.tmp rfl .nil)) ?_ .nil rfl rfl rfl rfl
      simp only [retA]
      first | exact A.le_refl _ | (refine A.le_of_eq ?_; simp_all [joinOf]; done) | (exfalso; simp_all [joinOf]; done)
    · have h2n := h2; try simp only [dtt, dff, bqi, bqf, bni, bnf, nt1, nf1, nt0, nf0, ne_eq, ilt, ile] at h2n
      refine AL.go (OpR.onb rfl rfl (nb rfl) rfl (h2) (r_move rfl (nb rfl) (by rintro _ ⟨⟩))) ?_
      refine AL.go (OpR.onb rfl rfl (nb rfl) rfl (h2) (r_bin rfl rfl (nb rfl) rfl (run_str_eql _ _))) ?_
      refine AL.go (OpR.plain rfl (r_pickFb rfl (h2) rfl (nb rfl) (by rintro _ ⟨⟩))) ?_
      refine AL.go (OpR.plain rfl (r_move rfl (nb rfl) (by rintro _ ⟨⟩))) ?_
      refine AL.ifb (t := 43) rfl (fun h3 => ?_) (fun h3 => ?_)
      · have h3n := h3; try simp only [dtt, dff, bqi, bqf, bni, bnf, nt1, nf1, nt0, nf0, ne_eq, ilt, ile] at h3n
        refine AL.go (.off rfl rfl (nb rfl) rfl (by rw [h3]; decide) rfl (nb rfl)) ?_
        refine AL.go (.off rfl rfl (nb rfl) rfl (by rw [h3]; decide) rfl (nb rfl)) ?_
        refine AL.go (OpR.plain rfl (r_pickTb rfl (h3) rfl (nb rfl) (by rintro _ ⟨⟩; rfl))) ?_
        refine AL.go (OpR.plain rfl (r_move rfl (nb rfl) (by rintro _ ⟨⟩))) ?_
        refine AL.go (.off rfl rfl (nb rfl) rfl (by decide) rfl (nb rfl)) ?_
        refine AL.go (.off rfl rfl (nb rfl) rfl (by decide) rfl (nb rfl)) ?_
        refine AL.go (OpR.plain rfl (r_pickTb rfl (rfl) rfl (nb rfl) (by rintro _ ⟨⟩; rfl))) ?_
        refine AL.go (OpR.plain rfl (r_assign rfl (nb rfl) (by rintro _ ⟨⟩))) ?_
        refine AL.nil ?_
        refine thenN ?_
        refine AW.seq ?_
        refine AW.region ?_
        first | refine AL.go (OpR.plain rfl (r_load ti_27 rfl rfl (by simp only [loaded, mpc, mpn, if_true, ler, tks, tkz, tkn, dps, dpz, cap, nap, apn, lnc, lnn, zad, Nat.reduceAdd, adz]; rfl) (nb rfl))) ?_ | refine AL.go (OpR.plain rfl (r_loadp ti_27 rfl (by simp only [loaded, mpc, mpn, if_true, ler, tks, tkz, tkn, dps, dpz, cap, nap, apn, lnc, lnn, zad, Nat.reduceAdd, adz]; rfl) (nb rfl))) ?_
        first | refine AL.go (OpR.plain rfl (r_load ti_27 rfl rfl (by simp only [loaded, mpc, mpn, if_true, ler, tks, tkz, tkn, dps, dpz, cap, nap, apn, lnc, lnn, zad, Nat.reduceAdd, adz]; rfl) (nb rfl))) ?_ | refine AL.go (OpR.plain rfl (r_loadp ti_27 rfl (by simp only [loaded, mpc, mpn, if_true, ler, tks, tkz, tkn, dps, dpz, cap, nap, apn, lnc, lnn, zad, Nat.reduceAdd, adz]; rfl) (nb rfl))) ?_
        refine AL.go (OpR.plain rfl (r_callFun (same_all (exprM_thin n s)) en_8 rfl rfl rfl rfl (.cons (A.le_refl _) (.cons (A.le_refl _) .nil)) rfl (nb rfl))) ?_
        refine AL.go (OpR.plain rfl (r_move rfl (nb rfl) (by rintro _ ⟨⟩))) ?_
        refine AL.go (OpR.onb rfl rfl (nb rfl) rfl (rfl) (r_move rfl (nb rfl) (by rintro _ ⟨⟩))) ?_
        refine AL.go (OpR.onb rfl rfl (nb rfl) rfl (rfl) (r_callFun (code_s _) en_9 rfl rfl rfl rfl (.cons (A.le_refl _) .nil) rfl (nb rfl))) ?_
        refine AL.go (OpR.onb rfl rfl (nb rfl) rfl (rfl) (r_move rfl (nb rfl) (by rintro _ ⟨⟩))) ?_
        refine AL.go (OpR.onb rfl rfl (nb rfl) rfl (rfl) (r_bin (r := .bool true) rfl rfl (nb rfl) rfl (fun w => (run_int_eql _ _ _ w).trans (by simp)))) ?_
        refine AL.go (OpR.plain rfl (r_pickTb rfl (rfl) rfl (nb rfl) (by rintro _ ⟨⟩))) ?_
        refine AL.go (OpR.plain rfl (r_move rfl (nb rfl) (by rintro _ ⟨⟩))) ?_
        refine AL.go (OpR.onb rfl rfl (nb rfl) rfl (rfl) (r_move rfl (nb rfl) (by rintro _ ⟨⟩))) ?_
        refine AL.go (OpR.plain rfl (r_pickTb rfl (rfl) rfl (nb rfl) (by rintro _ ⟨⟩))) ?_
        refine AL.go (OpR.plain rfl (r_move rfl (nb rfl) (by rintro _ ⟨⟩))) ?_
        refine AL.go (OpR.onb rfl rfl (nb rfl) rfl (rfl) (r_move rfl (nb rfl) (by rintro _ ⟨⟩))) ?_
        refine AL.go (OpR.onb rfl rfl (nb rfl) rfl (rfl) (r_move rfl (nb rfl) (by rintro _ ⟨⟩))) ?_
        refine AL.go (.off rfl rfl (nb rfl) rfl (by decide) rfl (nb rfl)) ?_
        refine AL.go (.off rfl rfl (nb rfl) rfl (by decide) rfl (nb rfl)) ?_
        refine AL.go (.off rfl rfl (nb rfl) rfl (by decide) rfl (nb rfl)) ?_
        refine AL.go (OpR.onb rfl rfl (nb rfl) rfl (rfl) (r_pickTb rfl (rfl) rfl (nb rfl) (by rintro _ ⟨⟩; rfl))) ?_
        refine AL.go (OpR.plain rfl (r_pickTb rfl (rfl) rfl (nb rfl) (by rintro _ ⟨⟩))) ?_
        refine AL.go (OpR.plain rfl (r_move rfl (nb rfl) (by rintro _ ⟨⟩))) ?_
        refine AL.go (OpR.onb rfl rfl (nb rfl) rfl (rfl) (r_callFun (hlive) en_4 rfl rfl rfl rfl .nil rfl (nb rfl))) ?_
        refine AL.go (OpR.plain rfl (r_pickTb rfl (rfl) rfl (nb rfl) (by rintro _ ⟨⟩))) ?_
        refine AL.go (OpR.plain rfl (r_assign rfl (nb rfl) (by rintro _ ⟨⟩))) ?_
        refine AL.nil ?_
        refine thenN ?_
        refine AW.ret ?_
        refine fin_id (.inr rfl) (ends_of rfl (.tmp rfl .nil)) ?_ .nil rfl rfl rfl rfl
        simp only [retA]
        first | exact A.le_refl _ | (refine A.le_of_eq ?_; simp_all [joinOf]; done) | (exfalso; simp_all [joinOf]; done)
      · have h3n := h3; try simp only [dtt, dff, bqi, bqf, bni, bnf, nt1, nf1, nt0, nf0, ne_eq, ilt, ile] at h3n
        refine AL.go (OpR.onb rfl rfl (nb rfl) rfl (h3) (r_move rfl (nb rfl) (by rintro _ ⟨⟩))) ?_
        refine AL.go (OpR.onb rfl rfl (nb rfl) rfl (h3) (r_bin rfl rfl (nb rfl) rfl (run_str_eql _ _))) ?_
        refine AL.go (OpR.plain rfl (r_pickFb rfl (h3) rfl (nb rfl) (by rintro _ ⟨⟩))) ?_
        refine AL.go (OpR.plain rfl (r_move rfl (nb rfl) (by rintro _ ⟨⟩))) ?_
        refine AL.ifb (t := 47) rfl (fun h4 => ?_) (fun h4 => ?_)
        · have h4n := h4; try simp only [dtt, dff, bqi, bqf, bni, bnf, nt1, nf1, nt0, nf0, ne_eq, ilt, ile] at h4n
          refine AL.go (.off rfl rfl (nb rfl) rfl (by rw [h4]; decide) rfl (nb rfl)) ?_
          refine AL.go (.off rfl rfl (nb rfl) rfl (by rw [h4]; decide) rfl (nb rfl)) ?_
          refine AL.go (OpR.plain rfl (r_pickTb rfl (h4) rfl (nb rfl) (by rintro _ ⟨⟩; rfl))) ?_
          refine AL.go (OpR.plain rfl (r_assign rfl (nb rfl) (by rintro _ ⟨⟩))) ?_
          refine AL.nil ?_
          refine thenN ?_
          refine AW.seq ?_
          refine AW.region ?_
          first | refine AL.go (OpR.plain rfl (r_load ti_27 rfl rfl (by simp only [loaded, mpc, mpn, if_true, ler, tks, tkz, tkn, dps, dpz, cap, nap, apn, lnc, lnn, zad, Nat.reduceAdd, adz]; rfl) (nb rfl))) ?_ | refine AL.go (OpR.plain rfl (r_loadp ti_27 rfl (by simp only [loaded, mpc, mpn, if_true, ler, tks, tkz, tkn, dps, dpz, cap, nap, apn, lnc, lnn, zad, Nat.reduceAdd, adz]; rfl) (nb rfl))) ?_
          first | refine AL.go (OpR.plain rfl (r_load ti_27 rfl rfl (by simp only [loaded, mpc, mpn, if_true, ler, tks, tkz, tkn, dps, dpz, cap, nap, apn, lnc, lnn, zad, Nat.reduceAdd, adz]; rfl) (nb rfl))) ?_ | refine AL.go (OpR.plain rfl (r_loadp ti_27 rfl (by simp only [loaded, mpc, mpn, if_true, ler, tks, tkz, tkn, dps, dpz, cap, nap, apn, lnc, lnn, zad, Nat.reduceAdd, adz]; rfl) (nb rfl))) ?_
          refine AL.go (OpR.plain rfl (r_callFun (same_all (exprM_thin n s)) en_8 rfl rfl rfl rfl (.cons (A.le_refl _) (.cons (A.le_refl _) .nil)) rfl (nb rfl))) ?_
          refine AL.go (OpR.plain rfl (r_move rfl (nb rfl) (by rintro _ ⟨⟩))) ?_
          refine AL.go (OpR.onb rfl rfl (nb rfl) rfl (rfl) (r_move rfl (nb rfl) (by rintro _ ⟨⟩))) ?_
          refine AL.go (OpR.onb rfl rfl (nb rfl) rfl (rfl) (r_callFun (code_s _) en_9 rfl rfl rfl rfl (.cons (A.le_refl _) .nil) rfl (nb rfl))) ?_
          refine AL.go (OpR.onb rfl rfl (nb rfl) rfl (rfl) (r_move rfl (nb rfl) (by rintro _ ⟨⟩))) ?_
          refine AL.go (OpR.onb rfl rfl (nb rfl) rfl (rfl) (r_bin (r := .bool true) rfl rfl (nb rfl) rfl (fun w => (run_int_eql _ _ _ w).trans (by simp)))) ?_
          refine AL.go (OpR.plain rfl (r_pickTb rfl (rfl) rfl (nb rfl) (by rintro _ ⟨⟩))) ?_
          refine AL.go (OpR.plain rfl (r_move rfl (nb rfl) (by rintro _ ⟨⟩))) ?_
          refine AL.go (OpR.onb rfl rfl (nb rfl) rfl (rfl) (r_move rfl (nb rfl) (by rintro _ ⟨⟩))) ?_
          refine AL.go (OpR.plain rfl (r_pickTb rfl (rfl) rfl (nb rfl) (by rintro _ ⟨⟩))) ?_
          refine AL.go (OpR.plain rfl (r_move rfl (nb rfl) (by rintro _ ⟨⟩))) ?_
          refine AL.go (OpR.onb rfl rfl (nb rfl) rfl (rfl) (r_move rfl (nb rfl) (by rintro _ ⟨⟩))) ?_
          refine AL.go (OpR.onb rfl rfl (nb rfl) rfl (rfl) (r_move rfl (nb rfl) (by rintro _ ⟨⟩))) ?_
          refine AL.go (.off rfl rfl (nb rfl) rfl (by decide) rfl (nb rfl)) ?_
          refine AL.go (.off rfl rfl (nb rfl) rfl (by decide) rfl (nb rfl)) ?_
          refine AL.go (.off rfl rfl (nb rfl) rfl (by decide) rfl (nb rfl)) ?_
          refine AL.go (OpR.onb rfl rfl (nb rfl) rfl (rfl) (r_pickTb rfl (rfl) rfl (nb rfl) (by rintro _ ⟨⟩; rfl))) ?_
          refine AL.go (OpR.plain rfl (r_pickTb rfl (rfl) rfl (nb rfl) (by rintro _ ⟨⟩))) ?_
          refine AL.go (OpR.plain rfl (r_move rfl (nb rfl) (by rintro _ ⟨⟩))) ?_
          refine AL.go (OpR.onb rfl rfl (nb rfl) rfl (rfl) (r_callFun (hlive) en_4 rfl rfl rfl rfl .nil rfl (nb rfl))) ?_
          refine AL.go (OpR.plain rfl (r_pickTb rfl (rfl) rfl (nb rfl) (by rintro _ ⟨⟩))) ?_
          refine AL.go (OpR.plain rfl (r_assign rfl (nb rfl) (by rintro _ ⟨⟩))) ?_
          refine AL.nil ?_
          refine thenN ?_
          refine AW.ret ?_
          refine fin_id (.inr rfl) (ends_of rfl (.tmp rfl .nil)) ?_ .nil rfl rfl rfl rfl
          simp only [retA]
          first | exact A.le_refl _ | (refine A.le_of_eq ?_; simp_all [joinOf]; done) | (exfalso; simp_all [joinOf]; done)
        · have h4n := h4; try simp only [dtt, dff, bqi, bqf, bni, bnf, nt1, nf1, nt0, nf0, ne_eq, ilt, ile] at h4n
          refine AL.go (OpR.onb rfl rfl (nb rfl) rfl (h4) (r_move rfl (nb rfl) (by rintro _ ⟨⟩))) ?_
          refine AL.go (OpR.onb rfl rfl (nb rfl) rfl (h4) (r_bin rfl rfl (nb rfl) rfl (run_str_eql _ _))) ?_
          refine AL.go (OpR.plain rfl (r_pickFb rfl (h4) rfl (nb rfl) (by rintro _ ⟨⟩))) ?_
          refine AL.go (OpR.plain rfl (r_assign rfl (nb rfl) (by rintro _ ⟨⟩))) ?_
          refine AL.nil ?_
          refine thenN ?_
          refine AW.seq ?_
          refine AW.region ?_
          first | refine AL.go (OpR.plain rfl (r_load ti_27 rfl rfl (by simp only [loaded, mpc, mpn, if_true, ler, tks, tkz, tkn, dps, dpz, cap, nap, apn, lnc, lnn, zad, Nat.reduceAdd, adz]; rfl) (nb rfl))) ?_ | refine AL.go (OpR.plain rfl (r_loadp ti_27 rfl (by simp only [loaded, mpc, mpn, if_true, ler, tks, tkz, tkn, dps, dpz, cap, nap, apn, lnc, lnn, zad, Nat.reduceAdd, adz]; rfl) (nb rfl))) ?_
          first | refine AL.go (OpR.plain rfl (r_load ti_27 rfl rfl (by simp only [loaded, mpc, mpn, if_true, ler, tks, tkz, tkn, dps, dpz, cap, nap, apn, lnc, lnn, zad, Nat.reduceAdd, adz]; rfl) (nb rfl))) ?_ | refine AL.go (OpR.plain rfl (r_loadp ti_27 rfl (by simp only [loaded, mpc, mpn, if_true, ler, tks, tkz, tkn, dps, dpz, cap, nap, apn, lnc, lnn, zad, Nat.reduceAdd, adz]; rfl) (nb rfl))) ?_
          refine AL.go (OpR.plain rfl (r_callFun (same_all (exprM_thin n s)) en_8 rfl rfl rfl rfl (.cons (A.le_refl _) (.cons (A.le_refl _) .nil)) rfl (nb rfl))) ?_
          refine AL.go (OpR.plain rfl (r_move rfl (nb rfl) (by rintro _ ⟨⟩))) ?_
          refine AL.go (OpR.onb rfl rfl (nb rfl) rfl (rfl) (r_move rfl (nb rfl) (by rintro _ ⟨⟩))) ?_
          refine AL.go (OpR.onb rfl rfl (nb rfl) rfl (rfl) (r_callFun (code_s _) en_9 rfl rfl rfl rfl (.cons (A.le_refl _) .nil) rfl (nb rfl))) ?_
          refine AL.go (OpR.onb rfl rfl (nb rfl) rfl (rfl) (r_move rfl (nb rfl) (by rintro _ ⟨⟩))) ?_
          refine AL.go (OpR.onb rfl rfl (nb rfl) rfl (rfl) (r_bin (r := .bool true) rfl rfl (nb rfl) rfl (fun w => (run_int_eql _ _ _ w).trans (by simp)))) ?_
          refine AL.go (OpR.plain rfl (r_pickTb rfl (rfl) rfl (nb rfl) (by rintro _ ⟨⟩))) ?_
          refine AL.go (OpR.plain rfl (r_move rfl (nb rfl) (by rintro _ ⟨⟩))) ?_
          refine AL.go (OpR.onb rfl rfl (nb rfl) rfl (rfl) (r_move rfl (nb rfl) (by rintro _ ⟨⟩))) ?_
          refine AL.go (OpR.plain rfl (r_pickTb rfl (rfl) rfl (nb rfl) (by rintro _ ⟨⟩))) ?_
          refine AL.go (OpR.plain rfl (r_move rfl (nb rfl) (by rintro _ ⟨⟩))) ?_
          refine AL.go (OpR.onb rfl rfl (nb rfl) rfl (rfl) (r_move rfl (nb rfl) (by rintro _ ⟨⟩))) ?_
          refine AL.go (OpR.onb rfl rfl (nb rfl) rfl (rfl) (r_move rfl (nb rfl) (by rintro _ ⟨⟩))) ?_
          refine AL.ifb (t := 65) rfl (fun h5 => ?_) (fun h5 => ?_)
          · have h5n := h5; try simp only [dtt, dff, bqi, bqf, bni, bnf, nt1, nf1, nt0, nf0, ne_eq, ilt, ile] at h5n
            refine AL.go (.off rfl rfl (nb rfl) rfl (by rw [h5]; decide) rfl (nb rfl)) ?_
            refine AL.go (.off rfl rfl (nb rfl) rfl (by rw [h5]; decide) rfl (nb rfl)) ?_
            refine AL.go (.off rfl rfl (nb rfl) rfl (by rw [h5]; decide) rfl (nb rfl)) ?_
            refine AL.go (OpR.onb rfl rfl (nb rfl) rfl (rfl) (r_pickTb rfl (h5) rfl (nb rfl) (by rintro _ ⟨⟩; rfl))) ?_
            refine AL.go (OpR.plain rfl (r_pickTb rfl (rfl) rfl (nb rfl) (by rintro _ ⟨⟩))) ?_
            refine AL.go (OpR.plain rfl (r_move rfl (nb rfl) (by rintro _ ⟨⟩))) ?_
            refine AL.go (OpR.onb rfl rfl (nb rfl) rfl (rfl) (r_callFun (hlive) en_4 rfl rfl rfl rfl .nil rfl (nb rfl))) ?_
            refine AL.go (OpR.plain rfl (r_pickTb rfl (rfl) rfl (nb rfl) (by rintro _ ⟨⟩))) ?_
            refine AL.go (OpR.plain rfl (r_assign rfl (nb rfl) (by rintro _ ⟨⟩))) ?_
            refine AL.nil ?_
            refine thenN ?_
            refine AW.ret ?_
            refine fin_id (.inr rfl) (ends_of rfl (.tmp rfl .nil)) ?_ .nil rfl rfl rfl rfl
            simp only [retA]
            first | exact A.le_refl _ | (refine A.le_of_eq ?_; simp_all [joinOf]; done) | (exfalso; simp_all [joinOf]; done)
          · have h5n := h5; try simp only [dtt, dff, bqi, bqf, bni, bnf, nt1, nf1, nt0, nf0, ne_eq, ilt, ile] at h5n
            refine AL.go (OpR.onb rfl rfl (nb rfl) rfl (h5) (r_move rfl (nb rfl) (by rintro _ ⟨⟩))) ?_
            refine AL.go (OpR.onb rfl rfl (nb rfl) rfl (h5) (r_callFun (join_s s) en_7 rfl rfl rfl rfl (.cons (A.le_refl _) .nil) rfl (nb rfl))) ?_
            refine AL.go (OpR.onb rfl rfl (nb rfl) rfl (h5) (r_bin rfl rfl (nb rfl) rfl (run_int_eql _ _ _))) ?_
            refine AL.go (OpR.onb rfl rfl (nb rfl) rfl (rfl) (r_pickFb rfl (h5) rfl (nb rfl) (by rintro _ ⟨⟩))) ?_
            refine AL.go (OpR.plain rfl (r_pickTb rfl (rfl) rfl (nb rfl) (by rintro _ ⟨⟩))) ?_
            refine AL.go (OpR.plain rfl (r_move rfl (nb rfl) (by rintro _ ⟨⟩))) ?_
            refine AL.ifb (t := 71) rfl (fun h6 => ?_) (fun h6 => ?_)
            · have h6n := h6; try simp only [dtt, dff, bqi, bqf, bni, bnf, nt1, nf1, nt0, nf0, ne_eq, ilt, ile] at h6n
              refine AL.go (OpR.onb rfl rfl (nb rfl) rfl (h6) (r_callFun (hlive) en_4 rfl rfl rfl rfl .nil rfl (nb rfl))) ?_
              refine AL.go (OpR.plain rfl (r_pickTb rfl (h6) rfl (nb rfl) (by rintro _ ⟨⟩))) ?_
              refine AL.go (OpR.plain rfl (r_assign rfl (nb rfl) (by rintro _ ⟨⟩))) ?_
              refine AL.nil ?_
              refine thenN ?_
              refine AW.ret ?_
              refine fin_id (.inr rfl) (ends_of rfl (.tmp rfl .nil)) ?_ .nil rfl rfl rfl rfl
              simp only [retA]
              first | exact A.le_refl _ | (refine A.le_of_eq ?_; simp_all [joinOf]; done) | (exfalso; simp_all [joinOf]; done)
            · have h6n := h6; try simp only [dtt, dff, bqi, bqf, bni, bnf, nt1, nf1, nt0, nf0, ne_eq, ilt, ile] at h6n
              refine AL.go (.off rfl rfl (nb rfl) rfl (by rw [h6]; decide) rfl (nb rfl)) ?_
              refine AL.go (OpR.plain rfl (r_pickFb rfl (h6) rfl (nb rfl) (by rintro _ ⟨⟩; rfl))) ?_
              refine AL.go (OpR.plain rfl (r_assign rfl (nb rfl) (by rintro _ ⟨⟩))) ?_
              refine AL.nil ?_
              refine thenN ?_
              refine AW.ret ?_
              refine fin_id (.inr rfl) (ends_of rfl (.tmp rfl .nil)) ?_ .nil rfl rfl rfl rfl
              simp only [retA]
              first | exact A.le_refl _ | (refine A.le_of_eq ?_; simp_all [joinOf]; done) | (exfalso; simp_all [joinOf]; done)

end Go.Par
