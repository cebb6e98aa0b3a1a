import Derived.Test.YtihcfphmikebgaaPar23
namespace Go.Par
open Go Go.Am Go.Proofs Go.RowKit
set_option linter.unusedVariables false
set_option linter.unusedSimpArgs false

theorem opOf_cmps {j : Nat} (h : j < 6) : opOf (cmps.getD j ⟨#[]⟩) = (j : Int) + 1 := by
  match j, h with
  | 0, _ | 1, _ | 2, _ | 3, _ | 4, _ | 5, _ => decide
theorem RR_test_some {n d : Nat} {p : Pst} {r : Ex × Pst} {j : Nat} (hr : r = RR n (.parse .sum) d p) (hj : j < 6) (hf : cmps.find? r.2.is = some (cmps.getD j ⟨#[]⟩)) :
    RR (n + 1) (.parse .test) d p = (exOf ((j : Int) + 1) [r.1, (RR n (.parse .sum) d r.2.step).1], (RR n (.parse .sum) d r.2.step).2) := by
  subst hr; rw [RR, hf]; simp only; rw [opOf_cmps hj]
theorem RR_test_none {n d : Nat} {p : Pst} {r : Ex × Pst} (hr : r = RR n (.parse .sum) d p) (hf : cmps.find? r.2.is = none) (hi : r.2.is bIs = false) : RR (n + 1) (.parse .test) d p = r := by
  subst hr; rw [RR, hf]; simp only [hi]; rfl
theorem RR_test_is {n d : Nat} {p : Pst} {r : Ex × Pst} (hr : r = RR n (.parse .sum) d p) (hf : cmps.find? r.2.is = none) (hi : r.2.is bIs = true) :
    RR (n + 1) (.parse .test) d p = (exOf (if r.2.step.is bNot then 14 else 13) [r.1], (r.2.step.take bNot).must bNull) := by
  subst hr; rw [RR, hf]; simp only [hi]; rfl

theorem en_60 : enters Try.prog 60 = true := by kernel_rfl

set_option maxHeartbeats 2000000 in
theorem rtest_s (n d : Nat) (hd : d ≤ 50) (p : Pst) (hg : Good p) (hm : mz p + 3 ≤ n)
    (hsub : ∀ q, Good q → mz q + 3 ≤ n → Am.Fun Try.prog 60 [atA q, A.i64 (d : Int)] (A.tup [atA (RR n (.parse .sum) d q).2, exA (RR n (.parse .sum) d q).1])) : Am.Spec Try.prog 48 [atA p, A.i64 (d : Int)] [] (A.tup [atA (RR (n + 1) (.parse .test) d p).2, exA (RR (n + 1) (.parse .test) d p).1]) [] := by
  refine spec_ofN (n := 59) Try.func48 rfl rfl (nb rfl) ?_
  show AW _ _ (⟨[(0, atA p), (1, A.i64 (d : Int))], [], []⟩ : St) _
  have hkk := RR_keeps n (.parse .sum) d p hg
  obtain ⟨rR, hrR⟩ : ∃ r, r = RR n (.parse .sum) d p := ⟨_, rfl⟩
  have hk : Keeps p rR.2 := by rw [hrR]; exact hkk.1
  refine AW.seq ?_
  refine AW.region ?_
  refine AL.go (OpR.plain rfl (r_box 101 rfl rfl rfl (nb rfl) (by rintro _ ⟨⟩))) ?_
  refine AL.go (OpR.plain rfl (r_alloc 102 ti_44 zc_44 rfl rfl (nb rfl))) ?_
  refine AL.go (OpR.plain rfl (r_alloc 103 ti_27 zc_27 rfl rfl (nb rfl))) ?_
  refine AL.nil ?_
  refine thenN ?_
  refine AW.seq ?_
  refine AW.region ?_
  first | refine AL.go (OpR.plain rfl (r_load ti_44 rfl rfl (by simp only [loaded, mpc, mpn, if_true, ler, tks, tkz, tkn, dps, dpz, cap, nap, apn, lnc, lnn, zad, Nat.reduceAdd, adz]; rfl) (nb rfl))) ?_ | refine AL.go (OpR.plain rfl (r_loadp ti_44 rfl (by simp only [loaded, mpc, mpn, if_true, ler, tks, tkz, tkn, dps, dpz, cap, nap, apn, lnc, lnn, zad, Nat.reduceAdd, adz]; rfl) (nb rfl))) ?_
  refine AL.go (OpR.plain rfl (r_move rfl (nb rfl) (by rintro _ ⟨⟩))) ?_
  refine AL.go (OpR.plain rfl (r_callFun ((by rw [hrR]; exact hsub p hg hm : Am.Fun Try.prog 60 [atA p, A.i64 (d : Int)] (A.tup [atA rR.2, exA rR.1]))) en_60 rfl rfl rfl rfl (.cons (A.le_refl _) (.cons (A.le_refl _) .nil)) rfl (nb rfl))) ?_
  refine AL.go (OpR.plain rfl (r_move rfl (nb rfl) (by rintro _ ⟨⟩))) ?_
  refine AL.go (OpR.plain rfl (r_extract rfl rfl (nb rfl))) ?_
  refine AL.go (OpR.plain rfl (r_extract rfl rfl (nb rfl))) ?_
  refine AL.go (OpR.plain rfl (r_alloc 104 ti_27 zc_27 rfl rfl (nb rfl))) ?_
  refine AL.go (OpR.plain rfl (r_storeN ti_44 rfl rfl rfl rfl rfl (nb rfl) (by simp only [putAt, tks, tkz, tkn, dps, dpz, cap, nap, apn, lnc, lnn, zad, Nat.reduceAdd, adz]; rfl) (by rintro _ ⟨⟩))) ?_
  refine AL.go (OpR.plain rfl (r_storeN ti_27 rfl rfl rfl rfl rfl (nb rfl) (by simp only [putAt, tks, tkz, tkn, dps, dpz, cap, nap, apn, lnc, lnn, zad, Nat.reduceAdd, adz]; rfl) (by rintro _ ⟨⟩))) ?_
  refine AL.nil ?_
  refine thenN ?_
  refine AW.seq ?_
  refine AW.region ?_
  refine AL.go (OpR.plain rfl (r_buildSlice un_64 ti_9 rfl rfl rfl rfl rfl (by decide) (by decide) rfl (nb rfl))) ?_
  refine AL.go (OpR.plain rfl (r_assign rfl (nb rfl) (by rintro _ ⟨⟩))) ?_
  refine AL.nil ?_
  refine thenN ?_
  refine AW.seq ?_
  refine AW.seq ?_
  refine AW.region ?_
  refine AL.go (OpR.plain rfl (r_assign rfl (nb rfl) (by rintro _ ⟨⟩; rfl))) ?_
  refine AL.nil ?_
  refine thenN ?_
  refine AW.block ?_
  refine AW.loop (ι := { x : Nat // x ≤ 6 ∧ (cmps.drop x).find? rR.2.is = cmps.find? rR.2.is }) (fun x => ⟨[(1, A.i64 (d : Int)), (2, A.c (.ref 101 0)), (4, A.c (.ref 102 0)), (5, A.c (.ref 103 0)), (6, A.c (.ref 104 0)), (7, A.c (.d (.sl true (strRows cmps)))), (8, A.i64 (x.1 : Int))], [(101, atBox rR.2), (102, .box [.d (.v (.slice none 0 0)), .d (.v (.int .i64 0)), .d (.v (.int .i64 0))]), (103, .box [.d (.v (.int .i64 0)), .d (.v (.string { data := #[] })), .d (.v (.string { data := #[] })), .d (.v (.int .i64 0)), .d (.v (.int .i64 0)), .d (.v (.int .i64 0)), .d (.v (.int .i64 0)), .d (.v (.string { data := #[] })), .d (.v (.slice none 0 0))]), (104, exBox rR.1)], []⟩) (fun x => 6 - x.1) ⟨0, by simp⟩ (weakens_id (.cons rfl (A.le_of_eq (by first | rfl | (simp [A.ren, C.ren, renOf, lk]; done) | (simp [A.ren, C.ren, renOf, lk]; omega) | omega)) (.cons rfl (A.le_of_eq (by first | rfl | (simp [A.ren, C.ren, renOf, lk]; done) | (simp [A.ren, C.ren, renOf, lk]; omega) | omega)) (.cons rfl (A.le_of_eq (by first | rfl | (simp [A.ren, C.ren, renOf, lk]; done) | (simp [A.ren, C.ren, renOf, lk]; omega) | omega)) (.cons rfl (A.le_of_eq (by first | rfl | (simp [A.ren, C.ren, renOf, lk]; done) | (simp [A.ren, C.ren, renOf, lk]; omega) | omega)) (.cons rfl (A.le_of_eq (by first | rfl | (simp [A.ren, C.ren, renOf, lk]; done) | (simp [A.ren, C.ren, renOf, lk]; omega) | omega)) (.cons rfl (A.le_of_eq (by first | rfl | (simp [A.ren, C.ren, renOf, lk]; done) | (simp [A.ren, C.ren, renOf, lk]; omega) | omega)) (.cons rfl (A.le_of_eq (by first | rfl | (simp [A.ren, C.ren, renOf, lk]; done) | (simp [A.ren, C.ren, renOf, lk]; omega) | omega)) .nil))))))) (.cons rfl (Ob.le_refl _) (.cons rfl (Ob.le_refl _) (.cons rfl (Ob.le_refl _) (.cons rfl (Ob.le_refl _) .nil)))) rfl rfl rfl rfl) ?_
  rintro ⟨jJ, hI⟩
  have hw : cmps.length = 6 := rfl; have hIa := hI.1
  show AW _ _ (⟨[(1, A.i64 (d : Int)), (2, A.c (.ref 101 0)), (4, A.c (.ref 102 0)), (5, A.c (.ref 103 0)), (6, A.c (.ref 104 0)), (7, A.c (.d (.sl true (strRows cmps)))), (8, A.i64 (jJ : Int))], [(101, atBox rR.2), (102, .box [.d (.v (.slice none 0 0)), .d (.v (.int .i64 0)), .d (.v (.int .i64 0))]), (103, .box [.d (.v (.int .i64 0)), .d (.v (.string { data := #[] })), .d (.v (.string { data := #[] })), .d (.v (.int .i64 0)), .d (.v (.int .i64 0)), .d (.v (.int .i64 0)), .d (.v (.int .i64 0)), .d (.v (.string { data := #[] })), .d (.v (.slice none 0 0))]), (104, exBox rR.1)], []⟩ : St) _
  refine AW.seq ?_
  refine AW.seq ?_
  refine AW.region ?_
  refine AL.go (OpR.plain rfl (r_move rfl (nb rfl) (by rintro _ ⟨⟩))) ?_
  refine AL.go (OpR.plain rfl (r_bin rfl rfl (nb rfl) rfl (run_int_lss _ _ _))) ?_
  refine AL.nil ?_
  refine thenN ?_
  refine AW.condb rfl (fun h1 => ?_) (fun h1 => ?_)
  · have h1n := h1; try simp only [dtt, dff, bqi, bqf, bni, bnf, nt1, nf1, nt0, nf0, ne_eq, ilt, ile, Int.toNat_natCast, List.length_map] at h1n
    refine AW.skip ?_
    refine thenN ?_
    refine AW.seq ?_
    refine AW.block ?_
    refine AW.seq ?_
    refine AW.draw ?_
    first | refine DW.go (OpR.plain rfl (r_load ti_44 rfl rfl (by simp only [loaded, mpc, mpn, if_true, ler, tks, tkz, tkn, dps, dpz, cap, nap, apn, lnc, lnn, zad, Nat.reduceAdd, adz]; rfl) (nb rfl))) ?_ | refine DW.go (OpR.plain rfl (r_loadp ti_44 rfl (by simp only [loaded, mpc, mpn, if_true, ler, tks, tkz, tkn, dps, dpz, cap, nap, apn, lnc, lnn, zad, Nat.reduceAdd, adz]; rfl) (nb rfl))) ?_
    refine DW.go (OpR.plain rfl (r_move rfl (nb rfl) (by rintro _ ⟨⟩))) ?_
    refine DW.go (OpR.plain rfl (r_move rfl (nb rfl) (by rintro _ ⟨⟩))) ?_
    refine DW.go (OpR.plain rfl (r_indexAddr un_64 ti_9 rfl (by first | exact .inl rfl | exact .inr ⟨_, rfl⟩) rfl str_len (by first | omega | (simp only [dtt, dff, bqi, bqf, bni, nt1, nf1] at *; omega)) (str_at (by omega) (by omega)) (nb rfl))) ?_
    first | refine DW.go (OpR.plain rfl (r_load ti_9 rfl rfl rfl (nb rfl))) ?_ | refine DW.go (OpR.plain rfl (r_loadp ti_9 rfl rfl (nb rfl))) ?_
    refine DW.go (OpR.plain rfl (r_callFun (ris_s rR.2 hk.good.ok _) en_23 rfl rfl rfl rfl (.cons (A.le_refl _) (.cons (A.le_refl _) .nil)) rfl (nb rfl))) ?_
    refine DW.fin mixed (by kernel_rfl) (by kernel_rfl) ?_
    refine thenN ?_
    refine AW.condb rfl (fun h2 => ?_) (fun h2 => ?_)
    · have h2n := h2; try simp only [dtt, dff, bqi, bqf, bni, bnf, nt1, nf1, nt0, nf0, ne_eq, ilt, ile, Int.toNat_natCast, List.length_map] at h2n
      refine AW.seq ?_
      refine AW.region ?_
      have hs : rR.2.is (cmps.getD jJ ⟨#[]⟩) = true := by simp_all
      have hR := test_room hk hg hm hs
      have hfind : cmps.find? rR.2.is = some (cmps.getD jJ ⟨#[]⟩) := by
        rw [← hI.2, find_step (i := jJ) (by omega), if_pos hs]
      first | refine AL.go (OpR.plain rfl (r_load ti_44 rfl rfl (by simp only [loaded, mpc, mpn, if_true, ler, tks, tkz, tkn, dps, dpz, cap, nap, apn, lnc, lnn, zad, Nat.reduceAdd, adz]; rfl) (nb rfl))) ?_ | refine AL.go (OpR.plain rfl (r_loadp ti_44 rfl (by simp only [loaded, mpc, mpn, if_true, ler, tks, tkz, tkn, dps, dpz, cap, nap, apn, lnc, lnn, zad, Nat.reduceAdd, adz]; rfl) (nb rfl))) ?_
      refine AL.go (OpR.plain rfl (r_callFun (rstep_s rR.2 hk.good.ok) en_24 rfl rfl rfl rfl (.cons (A.le_refl _) .nil) rfl (nb rfl))) ?_
      refine AL.go (OpR.plain rfl (r_move rfl (nb rfl) (by rintro _ ⟨⟩))) ?_
      refine AL.go (OpR.plain rfl (r_callFun (hsub rR.2.step hR.1 hR.2) en_60 rfl rfl rfl rfl (.cons (A.le_refl _) (.cons (A.le_refl _) .nil)) rfl (nb rfl))) ?_
      refine AL.go (OpR.plain rfl (r_move rfl (nb rfl) (by rintro _ ⟨⟩))) ?_
      refine AL.go (OpR.plain rfl (r_extract rfl rfl (nb rfl))) ?_
      refine AL.go (OpR.plain rfl (r_extract rfl rfl (nb rfl))) ?_
      refine AL.go (OpR.plain rfl (r_alloc 105 ti_44 zc_44 rfl rfl (nb rfl))) ?_
      refine AL.go (OpR.plain rfl (r_alloc 106 ti_27 zc_27 rfl rfl (nb rfl))) ?_
      refine AL.go (OpR.plain rfl (r_storeN ti_44 rfl rfl rfl rfl rfl (nb rfl) (by simp only [putAt, tks, tkz, tkn, dps, dpz, cap, nap, apn, lnc, lnn, zad, Nat.reduceAdd, adz]; rfl) (by rintro _ ⟨⟩))) ?_
      refine AL.go (OpR.plain rfl (r_storeN ti_27 rfl rfl rfl rfl rfl (nb rfl) (by simp only [putAt, tks, tkz, tkn, dps, dpz, cap, nap, apn, lnc, lnn, zad, Nat.reduceAdd, adz]; rfl) (by rintro _ ⟨⟩))) ?_
      refine AL.nil ?_
      refine thenN ?_
      refine AW.seq ?_
      refine AW.draw ?_
      first | refine DW.go (OpR.plain rfl (r_load ti_44 rfl rfl (by simp only [loaded, mpc, mpn, if_true, ler, tks, tkz, tkn, dps, dpz, cap, nap, apn, lnc, lnn, zad, Nat.reduceAdd, adz]; rfl) (nb rfl))) ?_ | refine DW.go (OpR.plain rfl (r_loadp ti_44 rfl (by simp only [loaded, mpc, mpn, if_true, ler, tks, tkz, tkn, dps, dpz, cap, nap, apn, lnc, lnn, zad, Nat.reduceAdd, adz]; rfl) (nb rfl))) ?_
      refine DW.go (OpR.plain rfl (r_move rfl (nb rfl) (by rintro _ ⟨⟩))) ?_
      refine DW.go (OpR.plain rfl (r_add rfl rfl (nb rfl) (by first | omega | (simp only [dtt, dff, bqi, bqf, bni, nt1, nf1] at *; omega)) (by first | omega | (simp only [dtt, dff, bqi, bqf, bni, nt1, nf1] at *; omega)))) ?_
      first | refine DW.go (OpR.plain rfl (r_load ti_27 rfl rfl (by simp only [loaded, mpc, mpn, if_true, ler, tks, tkz, tkn, dps, dpz, cap, nap, apn, lnc, lnn, zad, Nat.reduceAdd, adz]; rfl) (nb rfl))) ?_ | refine DW.go (OpR.plain rfl (r_loadp ti_27 rfl (by simp only [loaded, mpc, mpn, if_true, ler, tks, tkz, tkn, dps, dpz, cap, nap, apn, lnc, lnn, zad, Nat.reduceAdd, adz]; rfl) (nb rfl))) ?_
      first | refine DW.go (OpR.plain rfl (r_load ti_27 rfl rfl (by simp only [loaded, mpc, mpn, if_true, ler, tks, tkz, tkn, dps, dpz, cap, nap, apn, lnc, lnn, zad, Nat.reduceAdd, adz]; rfl) (nb rfl))) ?_ | refine DW.go (OpR.plain rfl (r_loadp ti_27 rfl (by simp only [loaded, mpc, mpn, if_true, ler, tks, tkz, tkn, dps, dpz, cap, nap, apn, lnc, lnn, zad, Nat.reduceAdd, adz]; rfl) (nb rfl))) ?_
      refine DW.go (OpR.plain rfl (r_callFun (two_s ((jJ : Int) + 1) rR.1 (RR n (.parse .sum) d rR.2.step).1) en_25 rfl rfl rfl rfl (.cons (A.le_refl _) (.cons (A.le_refl _) (.cons (A.le_refl _) .nil))) rfl (nb rfl))) ?_
      refine DW.go (OpR.plain rfl (r_storeN ti_44 rfl rfl rfl rfl rfl (nb rfl) (by simp only [putAt, tks, tkz, tkn, dps, dpz, cap, nap, apn, lnc, lnn, zad, Nat.reduceAdd, adz]; rfl) (by rintro _ ⟨⟩))) ?_
      refine DW.go (OpR.plain rfl (r_storeN ti_27 rfl rfl rfl rfl rfl (nb rfl) (by simp only [putAt, tks, tkz, tkn, dps, dpz, cap, nap, apn, lnc, lnn, zad, Nat.reduceAdd, adz]; rfl) (by rintro _ ⟨⟩))) ?_
      refine DW.fin mixed (by kernel_rfl) (by kernel_rfl) ?_
      refine thenN ?_
      refine AW.ret ?_
      refine inbR ?_
      refine thenR ?_
      refine thenR ?_
      refine inbR ?_
      refine thenR ?_
      refine fin_id (.inr rfl) (ends_of rfl (.cell ti_44 rfl rfl (by simp only [loaded, if_true, ler, tks, tkz, tkn, dps, dpz, cap, nap, apn, lnc, lnn, zad, Nat.reduceAdd, adz]; rfl) (.cell ti_27 rfl rfl (by simp only [loaded, if_true, ler, tks, tkz, tkn, dps, dpz, cap, nap, apn, lnc, lnn, zad, Nat.reduceAdd, adz]; rfl) .nil))) ?_ .nil rfl rfl rfl rfl
      simp only [retA]
      first | (rw [RR_test_some hrR (by omega) hfind]; exact A.le_refl _) | (rw [RR_test_none hrR (by rw [← hI.2, List.drop_eq_nil_of_le (by omega)]; rfl) (by assumption)]; exact A.le_refl _) | (rw [RR_test_is hrR (by rw [← hI.2, List.drop_eq_nil_of_le (by omega)]; rfl) his]; first | (rw [if_pos (by assumption)]; exact A.le_tup (.cons (A.le_refl _) (.cons (A.le_agg (.cons (by first | exact C.le_refl _ | (refine C.le_trans C.le_nn (C.le_of_eq ?_); simp [Ex.l, Ex.rows, Ex.row_eq])) (.cons (by first | exact C.le_refl _ | (refine C.le_trans C.le_nn (C.le_of_eq ?_); simp [Ex.l, Ex.rows, Ex.row_eq])) (.cons (by first | exact C.le_refl _ | (refine C.le_trans C.le_nn (C.le_of_eq ?_); simp [Ex.l, Ex.rows, Ex.row_eq])) (.cons (by first | exact C.le_refl _ | (refine C.le_trans C.le_nn (C.le_of_eq ?_); simp [Ex.l, Ex.rows, Ex.row_eq])) (.cons (by first | exact C.le_refl _ | (refine C.le_trans C.le_nn (C.le_of_eq ?_); simp [Ex.l, Ex.rows, Ex.row_eq])) (.cons (by first | exact C.le_refl _ | (refine C.le_trans C.le_nn (C.le_of_eq ?_); simp [Ex.l, Ex.rows, Ex.row_eq])) (.cons (by first | exact C.le_refl _ | (refine C.le_trans C.le_nn (C.le_of_eq ?_); simp [Ex.l, Ex.rows, Ex.row_eq])) (.cons (by first | exact C.le_refl _ | (refine C.le_trans C.le_nn (C.le_of_eq ?_); simp [Ex.l, Ex.rows, Ex.row_eq])) (.cons (by first | exact C.le_refl _ | (refine C.le_trans C.le_nn (C.le_of_eq ?_); simp [Ex.l, Ex.rows, Ex.row_eq])) .nil)))))))))) .nil))) | (rw [if_neg (by simp_all)]; exact A.le_tup (.cons (A.le_refl _) (.cons (A.le_agg (.cons (by first | exact C.le_refl _ | (refine C.le_trans C.le_nn (C.le_of_eq ?_); simp [Ex.l, Ex.rows, Ex.row_eq])) (.cons (by first | exact C.le_refl _ | (refine C.le_trans C.le_nn (C.le_of_eq ?_); simp [Ex.l, Ex.rows, Ex.row_eq])) (.cons (by first | exact C.le_refl _ | (refine C.le_trans C.le_nn (C.le_of_eq ?_); simp [Ex.l, Ex.rows, Ex.row_eq])) (.cons (by first | exact C.le_refl _ | (refine C.le_trans C.le_nn (C.le_of_eq ?_); simp [Ex.l, Ex.rows, Ex.row_eq])) (.cons (by first | exact C.le_refl _ | (refine C.le_trans C.le_nn (C.le_of_eq ?_); simp [Ex.l, Ex.rows, Ex.row_eq])) (.cons (by first | exact C.le_refl _ | (refine C.le_trans C.le_nn (C.le_of_eq ?_); simp [Ex.l, Ex.rows, Ex.row_eq])) (.cons (by first | exact C.le_refl _ | (refine C.le_trans C.le_nn (C.le_of_eq ?_); simp [Ex.l, Ex.rows, Ex.row_eq])) (.cons (by first | exact C.le_refl _ | (refine C.le_trans C.le_nn (C.le_of_eq ?_); simp [Ex.l, Ex.rows, Ex.row_eq])) (.cons (by first | exact C.le_refl _ | (refine C.le_trans C.le_nn (C.le_of_eq ?_); simp [Ex.l, Ex.rows, Ex.row_eq])) .nil)))))))))) .nil))))
    · have h2n := h2; try simp only [dtt, dff, bqi, bqf, bni, bnf, nt1, nf1, nt0, nf0, ne_eq, ilt, ile, Int.toNat_natCast, List.length_map] at h2n
      refine AW.skip ?_
      refine inbN ?_
      refine thenN ?_
      refine AW.region ?_
      refine AL.go (OpR.plain rfl (r_move rfl (nb rfl) (by rintro _ ⟨⟩))) ?_
      refine AL.go (OpR.plain rfl (r_add rfl rfl (nb rfl) (by first | omega | (simp only [dtt, dff, bqi, bqf, bni, nt1, nf1] at *; omega)) (by first | omega | (simp only [dtt, dff, bqi, bqf, bni, nt1, nf1] at *; omega)))) ?_
      refine AL.go (OpR.plain rfl (r_assign rfl (nb rfl) (by rintro _ ⟨⟩))) ?_
      refine AL.nil ?_
      refine thenN ?_
      have hsF : rR.2.is (cmps.getD jJ ⟨#[]⟩) = false := by simp_all
      refine ⟨⟨jJ + 1, by exact ⟨by omega, by rw [← hI.2, find_step (i := jJ) (by omega), if_neg (by rw [hsF]; decide)]⟩⟩, by simp only; omega, weakens_id (.cons rfl (A.le_of_eq (by first | rfl | (simp [A.ren, C.ren, renOf, lk]; done) | (simp [A.ren, C.ren, renOf, lk]; omega) | omega)) (.cons rfl (A.le_of_eq (by first | rfl | (simp [A.ren, C.ren, renOf, lk]; done) | (simp [A.ren, C.ren, renOf, lk]; omega) | omega)) (.cons rfl (A.le_of_eq (by first | rfl | (simp [A.ren, C.ren, renOf, lk]; done) | (simp [A.ren, C.ren, renOf, lk]; omega) | omega)) (.cons rfl (A.le_of_eq (by first | rfl | (simp [A.ren, C.ren, renOf, lk]; done) | (simp [A.ren, C.ren, renOf, lk]; omega) | omega)) (.cons rfl (A.le_of_eq (by first | rfl | (simp [A.ren, C.ren, renOf, lk]; done) | (simp [A.ren, C.ren, renOf, lk]; omega) | omega)) (.cons rfl (A.le_of_eq (by first | rfl | (simp [A.ren, C.ren, renOf, lk]; done) | (simp [A.ren, C.ren, renOf, lk]; omega) | omega)) (.cons rfl (A.le_of_eq (by first | rfl | (simp [A.ren, C.ren, renOf, lk]; done) | (simp [A.ren, C.ren, renOf, lk]; omega) | omega)) .nil))))))) (.cons rfl (Ob.le_refl _) (.cons rfl (Ob.le_refl _) (.cons rfl (Ob.le_refl _) (.cons rfl (Ob.le_refl _) .nil)))) rfl rfl rfl rfl⟩
  · have h1n := h1; try simp only [dtt, dff, bqi, bqf, bni, bnf, nt1, nf1, nt0, nf0, ne_eq, ilt, ile, Int.toNat_natCast, List.length_map] at h1n
    refine AW.exit ?_
    refine thenX ?_
    refine thenX ?_
    refine inbE ?_
    refine thenN ?_
    refine AW.seq ?_
    refine AW.seq ?_
    refine AW.region ?_
    first | refine AL.go (OpR.plain rfl (r_load ti_44 rfl rfl (by simp only [loaded, mpc, mpn, if_true, ler, tks, tkz, tkn, dps, dpz, cap, nap, apn, lnc, lnn, zad, Nat.reduceAdd, adz]; rfl) (nb rfl))) ?_ | refine AL.go (OpR.plain rfl (r_loadp ti_44 rfl (by simp only [loaded, mpc, mpn, if_true, ler, tks, tkz, tkn, dps, dpz, cap, nap, apn, lnc, lnn, zad, Nat.reduceAdd, adz]; rfl) (nb rfl))) ?_
    refine AL.go (OpR.plain rfl (r_callFun (ris_s rR.2 hk.good.ok _) en_23 rfl rfl rfl rfl (.cons (A.le_refl _) (.cons (A.le_refl _) .nil)) rfl (nb rfl))) ?_
    refine AL.go (OpR.plain rfl (r_not rfl (nb rfl))) ?_
    refine AL.nil ?_
    refine thenN ?_
    refine AW.condb rfl (fun h3 => ?_) (fun h3 => ?_)
    · have h3n := h3; try simp only [dtt, dff, bqi, bqf, bni, bnf, nt1, nf1, nt0, nf0, ne_eq, ilt, ile, Int.toNat_natCast, List.length_map] at h3n
      refine AW.seq ?_
      refine AW.draw ?_
      first | refine DW.go (OpR.plain rfl (r_load ti_44 rfl rfl (by simp only [loaded, mpc, mpn, if_true, ler, tks, tkz, tkn, dps, dpz, cap, nap, apn, lnc, lnn, zad, Nat.reduceAdd, adz]; rfl) (nb rfl))) ?_ | refine DW.go (OpR.plain rfl (r_loadp ti_44 rfl (by simp only [loaded, mpc, mpn, if_true, ler, tks, tkz, tkn, dps, dpz, cap, nap, apn, lnc, lnn, zad, Nat.reduceAdd, adz]; rfl) (nb rfl))) ?_
      first | refine DW.go (OpR.plain rfl (r_load ti_27 rfl rfl (by simp only [loaded, mpc, mpn, if_true, ler, tks, tkz, tkn, dps, dpz, cap, nap, apn, lnc, lnn, zad, Nat.reduceAdd, adz]; rfl) (nb rfl))) ?_ | refine DW.go (OpR.plain rfl (r_loadp ti_27 rfl (by simp only [loaded, mpc, mpn, if_true, ler, tks, tkz, tkn, dps, dpz, cap, nap, apn, lnc, lnn, zad, Nat.reduceAdd, adz]; rfl) (nb rfl))) ?_
      refine DW.go (OpR.plain rfl (r_storeN ti_44 rfl rfl rfl rfl rfl (nb rfl) (by simp only [putAt, tks, tkz, tkn, dps, dpz, cap, nap, apn, lnc, lnn, zad, Nat.reduceAdd, adz]; rfl) (by rintro _ ⟨⟩))) ?_
      refine DW.go (OpR.plain rfl (r_storeN ti_27 rfl rfl rfl rfl rfl (nb rfl) (by simp only [putAt, tks, tkz, tkn, dps, dpz, cap, nap, apn, lnc, lnn, zad, Nat.reduceAdd, adz]; rfl) (by rintro _ ⟨⟩))) ?_
      refine DW.fin mixed (by kernel_rfl) (by kernel_rfl) ?_
      refine thenN ?_
      refine AW.ret ?_
      refine thenR ?_
      refine fin_id (.inr rfl) (ends_of rfl (.cell ti_44 rfl rfl (by simp only [loaded, if_true, ler, tks, tkz, tkn, dps, dpz, cap, nap, apn, lnc, lnn, zad, Nat.reduceAdd, adz]; rfl) (.cell ti_27 rfl rfl (by simp only [loaded, if_true, ler, tks, tkz, tkn, dps, dpz, cap, nap, apn, lnc, lnn, zad, Nat.reduceAdd, adz]; rfl) .nil))) ?_ .nil rfl rfl rfl rfl
      simp only [retA]
      first | (rw [RR_test_some hrR (by omega) hfind]; exact A.le_refl _) | (rw [RR_test_none hrR (by rw [← hI.2, List.drop_eq_nil_of_le (by omega)]; rfl) (by assumption)]; exact A.le_refl _) | (rw [RR_test_is hrR (by rw [← hI.2, List.drop_eq_nil_of_le (by omega)]; rfl) his]; first | (rw [if_pos (by assumption)]; exact A.le_tup (.cons (A.le_refl _) (.cons (A.le_agg (.cons (by first | exact C.le_refl _ | (refine C.le_trans C.le_nn (C.le_of_eq ?_); simp [Ex.l, Ex.rows, Ex.row_eq])) (.cons (by first | exact C.le_refl _ | (refine C.le_trans C.le_nn (C.le_of_eq ?_); simp [Ex.l, Ex.rows, Ex.row_eq])) (.cons (by first | exact C.le_refl _ | (refine C.le_trans C.le_nn (C.le_of_eq ?_); simp [Ex.l, Ex.rows, Ex.row_eq])) (.cons (by first | exact C.le_refl _ | (refine C.le_trans C.le_nn (C.le_of_eq ?_); simp [Ex.l, Ex.rows, Ex.row_eq])) (.cons (by first | exact C.le_refl _ | (refine C.le_trans C.le_nn (C.le_of_eq ?_); simp [Ex.l, Ex.rows, Ex.row_eq])) (.cons (by first | exact C.le_refl _ | (refine C.le_trans C.le_nn (C.le_of_eq ?_); simp [Ex.l, Ex.rows, Ex.row_eq])) (.cons (by first | exact C.le_refl _ | (refine C.le_trans C.le_nn (C.le_of_eq ?_); simp [Ex.l, Ex.rows, Ex.row_eq])) (.cons (by first | exact C.le_refl _ | (refine C.le_trans C.le_nn (C.le_of_eq ?_); simp [Ex.l, Ex.rows, Ex.row_eq])) (.cons (by first | exact C.le_refl _ | (refine C.le_trans C.le_nn (C.le_of_eq ?_); simp [Ex.l, Ex.rows, Ex.row_eq])) .nil)))))))))) .nil))) | (rw [if_neg (by simp_all)]; exact A.le_tup (.cons (A.le_refl _) (.cons (A.le_agg (.cons (by first | exact C.le_refl _ | (refine C.le_trans C.le_nn (C.le_of_eq ?_); simp [Ex.l, Ex.rows, Ex.row_eq])) (.cons (by first | exact C.le_refl _ | (refine C.le_trans C.le_nn (C.le_of_eq ?_); simp [Ex.l, Ex.rows, Ex.row_eq])) (.cons (by first | exact C.le_refl _ | (refine C.le_trans C.le_nn (C.le_of_eq ?_); simp [Ex.l, Ex.rows, Ex.row_eq])) (.cons (by first | exact C.le_refl _ | (refine C.le_trans C.le_nn (C.le_of_eq ?_); simp [Ex.l, Ex.rows, Ex.row_eq])) (.cons (by first | exact C.le_refl _ | (refine C.le_trans C.le_nn (C.le_of_eq ?_); simp [Ex.l, Ex.rows, Ex.row_eq])) (.cons (by first | exact C.le_refl _ | (refine C.le_trans C.le_nn (C.le_of_eq ?_); simp [Ex.l, Ex.rows, Ex.row_eq])) (.cons (by first | exact C.le_refl _ | (refine C.le_trans C.le_nn (C.le_of_eq ?_); simp [Ex.l, Ex.rows, Ex.row_eq])) (.cons (by first | exact C.le_refl _ | (refine C.le_trans C.le_nn (C.le_of_eq ?_); simp [Ex.l, Ex.rows, Ex.row_eq])) (.cons (by first | exact C.le_refl _ | (refine C.le_trans C.le_nn (C.le_of_eq ?_); simp [Ex.l, Ex.rows, Ex.row_eq])) .nil)))))))))) .nil))))
    · have h3n := h3; try simp only [dtt, dff, bqi, bqf, bni, bnf, nt1, nf1, nt0, nf0, ne_eq, ilt, ile, Int.toNat_natCast, List.length_map] at h3n
      refine AW.skip ?_
      refine thenN ?_
      refine AW.seq ?_
      refine AW.region ?_
      have his : rR.2.is bIs = true := by simp_all
      have hokS := hk.good.ok.step (Pst.is_lt his)
      first | refine AL.go (OpR.plain rfl (r_load ti_44 rfl rfl (by simp only [loaded, mpc, mpn, if_true, ler, tks, tkz, tkn, dps, dpz, cap, nap, apn, lnc, lnn, zad, Nat.reduceAdd, adz]; rfl) (nb rfl))) ?_ | refine AL.go (OpR.plain rfl (r_loadp ti_44 rfl (by simp only [loaded, mpc, mpn, if_true, ler, tks, tkz, tkn, dps, dpz, cap, nap, apn, lnc, lnn, zad, Nat.reduceAdd, adz]; rfl) (nb rfl))) ?_
      refine AL.go (OpR.plain rfl (r_callFun (rstep_s rR.2 hk.good.ok) en_24 rfl rfl rfl rfl (.cons (A.le_refl _) .nil) rfl (nb rfl))) ?_
      refine AL.go (OpR.plain rfl (r_storeN ti_44 rfl rfl rfl rfl rfl (nb rfl) (by simp only [putAt, tks, tkz, tkn, dps, dpz, cap, nap, apn, lnc, lnn, zad, Nat.reduceAdd, adz]; rfl) (by rintro _ ⟨⟩))) ?_
      refine AL.nil ?_
      refine thenN ?_
      refine AW.seq ?_
      refine AW.region ?_
      refine AL.go (OpR.plain rfl (r_assign rfl (nb rfl) (by rintro _ ⟨⟩; rfl))) ?_
      refine AL.nil ?_
      refine thenN ?_
      refine AW.seq ?_
      refine AW.seq ?_
      refine AW.region ?_
      first | refine AL.go (OpR.plain rfl (r_load ti_44 rfl rfl (by simp only [loaded, mpc, mpn, if_true, ler, tks, tkz, tkn, dps, dpz, cap, nap, apn, lnc, lnn, zad, Nat.reduceAdd, adz]; rfl) (nb rfl))) ?_ | refine AL.go (OpR.plain rfl (r_loadp ti_44 rfl (by simp only [loaded, mpc, mpn, if_true, ler, tks, tkz, tkn, dps, dpz, cap, nap, apn, lnc, lnn, zad, Nat.reduceAdd, adz]; rfl) (nb rfl))) ?_
      refine AL.go (OpR.plain rfl (r_callFun (ris_s rR.2.step hokS _) en_23 rfl rfl rfl rfl (.cons (A.le_refl _) (.cons (A.le_refl _) .nil)) rfl (nb rfl))) ?_
      refine AL.nil ?_
      refine thenN ?_
      refine AW.condb rfl (fun h4 => ?_) (fun h4 => ?_)
      · have h4n := h4; try simp only [dtt, dff, bqi, bqf, bni, bnf, nt1, nf1, nt0, nf0, ne_eq, ilt, ile, Int.toNat_natCast, List.length_map] at h4n
        refine AW.region ?_
        first | refine AL.go (OpR.plain rfl (r_load ti_44 rfl rfl (by simp only [loaded, mpc, mpn, if_true, ler, tks, tkz, tkn, dps, dpz, cap, nap, apn, lnc, lnn, zad, Nat.reduceAdd, adz]; rfl) (nb rfl))) ?_ | refine AL.go (OpR.plain rfl (r_loadp ti_44 rfl (by simp only [loaded, mpc, mpn, if_true, ler, tks, tkz, tkn, dps, dpz, cap, nap, apn, lnc, lnn, zad, Nat.reduceAdd, adz]; rfl) (nb rfl))) ?_
        refine AL.go (OpR.plain rfl (r_callFun (rstep_s rR.2.step hokS) en_24 rfl rfl rfl rfl (.cons (A.le_refl _) .nil) rfl (nb rfl))) ?_
        refine AL.go (OpR.plain rfl (r_storeN ti_44 rfl rfl rfl rfl rfl (nb rfl) (by simp only [putAt, tks, tkz, tkn, dps, dpz, cap, nap, apn, lnc, lnn, zad, Nat.reduceAdd, adz]; rfl) (by rintro _ ⟨⟩))) ?_
        refine AL.go (OpR.plain rfl (r_assign rfl (nb rfl) (by rintro _ ⟨⟩; rfl))) ?_
        refine AL.nil ?_
        refine thenN ?_
        refine AW.seq ?_
        refine AW.draw ?_
        first | refine DW.go (OpR.plain rfl (r_load ti_44 rfl rfl (by simp only [loaded, mpc, mpn, if_true, ler, tks, tkz, tkn, dps, dpz, cap, nap, apn, lnc, lnn, zad, Nat.reduceAdd, adz]; rfl) (nb rfl))) ?_ | refine DW.go (OpR.plain rfl (r_loadp ti_44 rfl (by simp only [loaded, mpc, mpn, if_true, ler, tks, tkz, tkn, dps, dpz, cap, nap, apn, lnc, lnn, zad, Nat.reduceAdd, adz]; rfl) (nb rfl))) ?_
        refine DW.go (OpR.plain rfl (r_callFun (rmust_s (rR.2.step.take bNot) (hokS.take _) _) en_61 rfl rfl rfl rfl (.cons (A.le_of_eq (by first | rw [take_t (by assumption)] | rw [take_f (by assumption)])) (.cons (A.le_refl _) .nil)) rfl (nb rfl))) ?_
        refine DW.go (OpR.plain rfl (r_move rfl (nb rfl) (by rintro _ ⟨⟩))) ?_
        first | refine DW.go (OpR.plain rfl (r_load ti_27 rfl rfl (by simp only [loaded, mpc, mpn, if_true, ler, tks, tkz, tkn, dps, dpz, cap, nap, apn, lnc, lnn, zad, Nat.reduceAdd, adz]; rfl) (nb rfl))) ?_ | refine DW.go (OpR.plain rfl (r_loadp ti_27 rfl (by simp only [loaded, mpc, mpn, if_true, ler, tks, tkz, tkn, dps, dpz, cap, nap, apn, lnc, lnn, zad, Nat.reduceAdd, adz]; rfl) (nb rfl))) ?_
        refine DW.go (OpR.plain rfl (r_buildSlice un_25 ti_27 rfl rfl rfl rfl rfl (by decide) (by decide) rfl (nb rfl))) ?_
        refine DW.go (OpR.plain rfl (r_build pl_27 rfl zc_27 rfl rfl (by simp only [fillC, putAt, gez, ges, if_true, and_self, Nat.reduceLeDiff, true_and, tks, tkz, tkn, dps, dpz, cap, nap, apn, lnc, lnn, zad, Nat.reduceAdd, adz]; rfl) (nb rfl))) ?_
        refine DW.go (OpR.plain rfl (r_storeN ti_44 rfl rfl rfl rfl rfl (nb rfl) (by simp only [putAt, tks, tkz, tkn, dps, dpz, cap, nap, apn, lnc, lnn, zad, Nat.reduceAdd, adz]; rfl) (by rintro _ ⟨⟩))) ?_
        refine DW.go (OpR.plain rfl (r_storeN ti_27 rfl rfl rfl rfl rfl (nb rfl) (by simp only [putAt, tks, tkz, tkn, dps, dpz, cap, nap, apn, lnc, lnn, zad, Nat.reduceAdd, adz]; rfl) (by rintro _ ⟨⟩))) ?_
        refine DW.fin mixed (by kernel_rfl) (by kernel_rfl) ?_
        refine thenN ?_
        refine AW.ret ?_
        refine fin_id (.inr rfl) (ends_of rfl (.cell ti_44 rfl rfl (by simp only [loaded, if_true, ler, tks, tkz, tkn, dps, dpz, cap, nap, apn, lnc, lnn, zad, Nat.reduceAdd, adz]; rfl) (.cell ti_27 rfl rfl (by simp only [loaded, if_true, ler, tks, tkz, tkn, dps, dpz, cap, nap, apn, lnc, lnn, zad, Nat.reduceAdd, adz]; rfl) .nil))) ?_ .nil rfl rfl rfl rfl
        simp only [retA]
        first | (rw [RR_test_some hrR (by omega) hfind]; exact A.le_refl _) | (rw [RR_test_none hrR (by rw [← hI.2, List.drop_eq_nil_of_le (by omega)]; rfl) (by assumption)]; exact A.le_refl _) | (rw [RR_test_is hrR (by rw [← hI.2, List.drop_eq_nil_of_le (by omega)]; rfl) his]; first | (rw [if_pos (by assumption)]; exact A.le_tup (.cons (A.le_refl _) (.cons (A.le_agg (.cons (by first | exact C.le_refl _ | (refine C.le_trans C.le_nn (C.le_of_eq ?_); simp [Ex.l, Ex.rows, Ex.row_eq])) (.cons (by first | exact C.le_refl _ | (refine C.le_trans C.le_nn (C.le_of_eq ?_); simp [Ex.l, Ex.rows, Ex.row_eq])) (.cons (by first | exact C.le_refl _ | (refine C.le_trans C.le_nn (C.le_of_eq ?_); simp [Ex.l, Ex.rows, Ex.row_eq])) (.cons (by first | exact C.le_refl _ | (refine C.le_trans C.le_nn (C.le_of_eq ?_); simp [Ex.l, Ex.rows, Ex.row_eq])) (.cons (by first | exact C.le_refl _ | (refine C.le_trans C.le_nn (C.le_of_eq ?_); simp [Ex.l, Ex.rows, Ex.row_eq])) (.cons (by first | exact C.le_refl _ | (refine C.le_trans C.le_nn (C.le_of_eq ?_); simp [Ex.l, Ex.rows, Ex.row_eq])) (.cons (by first | exact C.le_refl _ | (refine C.le_trans C.le_nn (C.le_of_eq ?_); simp [Ex.l, Ex.rows, Ex.row_eq])) (.cons (by first | exact C.le_refl _ | (refine C.le_trans C.le_nn (C.le_of_eq ?_); simp [Ex.l, Ex.rows, Ex.row_eq])) (.cons (by first | exact C.le_refl _ | (refine C.le_trans C.le_nn (C.le_of_eq ?_); simp [Ex.l, Ex.rows, Ex.row_eq])) .nil)))))))))) .nil))) | (rw [if_neg (by simp_all)]; exact A.le_tup (.cons (A.le_refl _) (.cons (A.le_agg (.cons (by first | exact C.le_refl _ | (refine C.le_trans C.le_nn (C.le_of_eq ?_); simp [Ex.l, Ex.rows, Ex.row_eq])) (.cons (by first | exact C.le_refl _ | (refine C.le_trans C.le_nn (C.le_of_eq ?_); simp [Ex.l, Ex.rows, Ex.row_eq])) (.cons (by first | exact C.le_refl _ | (refine C.le_trans C.le_nn (C.le_of_eq ?_); simp [Ex.l, Ex.rows, Ex.row_eq])) (.cons (by first | exact C.le_refl _ | (refine C.le_trans C.le_nn (C.le_of_eq ?_); simp [Ex.l, Ex.rows, Ex.row_eq])) (.cons (by first | exact C.le_refl _ | (refine C.le_trans C.le_nn (C.le_of_eq ?_); simp [Ex.l, Ex.rows, Ex.row_eq])) (.cons (by first | exact C.le_refl _ | (refine C.le_trans C.le_nn (C.le_of_eq ?_); simp [Ex.l, Ex.rows, Ex.row_eq])) (.cons (by first | exact C.le_refl _ | (refine C.le_trans C.le_nn (C.le_of_eq ?_); simp [Ex.l, Ex.rows, Ex.row_eq])) (.cons (by first | exact C.le_refl _ | (refine C.le_trans C.le_nn (C.le_of_eq ?_); simp [Ex.l, Ex.rows, Ex.row_eq])) (.cons (by first | exact C.le_refl _ | (refine C.le_trans C.le_nn (C.le_of_eq ?_); simp [Ex.l, Ex.rows, Ex.row_eq])) .nil)))))))))) .nil))))
      · have h4n := h4; try simp only [dtt, dff, bqi, bqf, bni, bnf, nt1, nf1, nt0, nf0, ne_eq, ilt, ile, Int.toNat_natCast, List.length_map] at h4n
        refine AW.skip ?_
        refine thenN ?_
        refine AW.seq ?_
        refine AW.draw ?_
        first | refine DW.go (OpR.plain rfl (r_load ti_44 rfl rfl (by simp only [loaded, mpc, mpn, if_true, ler, tks, tkz, tkn, dps, dpz, cap, nap, apn, lnc, lnn, zad, Nat.reduceAdd, adz]; rfl) (nb rfl))) ?_ | refine DW.go (OpR.plain rfl (r_loadp ti_44 rfl (by simp only [loaded, mpc, mpn, if_true, ler, tks, tkz, tkn, dps, dpz, cap, nap, apn, lnc, lnn, zad, Nat.reduceAdd, adz]; rfl) (nb rfl))) ?_
        refine DW.go (OpR.plain rfl (r_callFun (rmust_s (rR.2.step.take bNot) (hokS.take _) _) en_61 rfl rfl rfl rfl (.cons (A.le_of_eq (by first | rw [take_t (by assumption)] | rw [take_f (by assumption)])) (.cons (A.le_refl _) .nil)) rfl (nb rfl))) ?_
        refine DW.go (OpR.plain rfl (r_move rfl (nb rfl) (by rintro _ ⟨⟩))) ?_
        first | refine DW.go (OpR.plain rfl (r_load ti_27 rfl rfl (by simp only [loaded, mpc, mpn, if_true, ler, tks, tkz, tkn, dps, dpz, cap, nap, apn, lnc, lnn, zad, Nat.reduceAdd, adz]; rfl) (nb rfl))) ?_ | refine DW.go (OpR.plain rfl (r_loadp ti_27 rfl (by simp only [loaded, mpc, mpn, if_true, ler, tks, tkz, tkn, dps, dpz, cap, nap, apn, lnc, lnn, zad, Nat.reduceAdd, adz]; rfl) (nb rfl))) ?_
        refine DW.go (OpR.plain rfl (r_buildSlice un_25 ti_27 rfl rfl rfl rfl rfl (by decide) (by decide) rfl (nb rfl))) ?_
        refine DW.go (OpR.plain rfl (r_build pl_27 rfl zc_27 rfl rfl (by simp only [fillC, putAt, gez, ges, if_true, and_self, Nat.reduceLeDiff, true_and, tks, tkz, tkn, dps, dpz, cap, nap, apn, lnc, lnn, zad, Nat.reduceAdd, adz]; rfl) (nb rfl))) ?_
        refine DW.go (OpR.plain rfl (r_storeN ti_44 rfl rfl rfl rfl rfl (nb rfl) (by simp only [putAt, tks, tkz, tkn, dps, dpz, cap, nap, apn, lnc, lnn, zad, Nat.reduceAdd, adz]; rfl) (by rintro _ ⟨⟩))) ?_
        refine DW.go (OpR.plain rfl (r_storeN ti_27 rfl rfl rfl rfl rfl (nb rfl) (by simp only [putAt, tks, tkz, tkn, dps, dpz, cap, nap, apn, lnc, lnn, zad, Nat.reduceAdd, adz]; rfl) (by rintro _ ⟨⟩))) ?_
        refine DW.fin mixed (by kernel_rfl) (by kernel_rfl) ?_
        refine thenN ?_
        refine AW.ret ?_
        refine fin_id (.inr rfl) (ends_of rfl (.cell ti_44 rfl rfl (by simp only [loaded, if_true, ler, tks, tkz, tkn, dps, dpz, cap, nap, apn, lnc, lnn, zad, Nat.reduceAdd, adz]; rfl) (.cell ti_27 rfl rfl (by simp only [loaded, if_true, ler, tks, tkz, tkn, dps, dpz, cap, nap, apn, lnc, lnn, zad, Nat.reduceAdd, adz]; rfl) .nil))) ?_ .nil rfl rfl rfl rfl
        simp only [retA]
        first | (rw [RR_test_some hrR (by omega) hfind]; exact A.le_refl _) | (rw [RR_test_none hrR (by rw [← hI.2, List.drop_eq_nil_of_le (by omega)]; rfl) (by assumption)]; exact A.le_refl _) | (rw [RR_test_is hrR (by rw [← hI.2, List.drop_eq_nil_of_le (by omega)]; rfl) his]; first | (rw [if_pos (by assumption)]; exact A.le_tup (.cons (A.le_refl _) (.cons (A.le_agg (.cons (by first | exact C.le_refl _ | (refine C.le_trans C.le_nn (C.le_of_eq ?_); simp [Ex.l, Ex.rows, Ex.row_eq])) (.cons (by first | exact C.le_refl _ | (refine C.le_trans C.le_nn (C.le_of_eq ?_); simp [Ex.l, Ex.rows, Ex.row_eq])) (.cons (by first | exact C.le_refl _ | (refine C.le_trans C.le_nn (C.le_of_eq ?_); simp [Ex.l, Ex.rows, Ex.row_eq])) (.cons (by first | exact C.le_refl _ | (refine C.le_trans C.le_nn (C.le_of_eq ?_); simp [Ex.l, Ex.rows, Ex.row_eq])) (.cons (by first | exact C.le_refl _ | (refine C.le_trans C.le_nn (C.le_of_eq ?_); simp [Ex.l, Ex.rows, Ex.row_eq])) (.cons (by first | exact C.le_refl _ | (refine C.le_trans C.le_nn (C.le_of_eq ?_); simp [Ex.l, Ex.rows, Ex.row_eq])) (.cons (by first | exact C.le_refl _ | (refine C.le_trans C.le_nn (C.le_of_eq ?_); simp [Ex.l, Ex.rows, Ex.row_eq])) (.cons (by first | exact C.le_refl _ | (refine C.le_trans C.le_nn (C.le_of_eq ?_); simp [Ex.l, Ex.rows, Ex.row_eq])) (.cons (by first | exact C.le_refl _ | (refine C.le_trans C.le_nn (C.le_of_eq ?_); simp [Ex.l, Ex.rows, Ex.row_eq])) .nil)))))))))) .nil))) | (rw [if_neg (by simp_all)]; exact A.le_tup (.cons (A.le_refl _) (.cons (A.le_agg (.cons (by first | exact C.le_refl _ | (refine C.le_trans C.le_nn (C.le_of_eq ?_); simp [Ex.l, Ex.rows, Ex.row_eq])) (.cons (by first | exact C.le_refl _ | (refine C.le_trans C.le_nn (C.le_of_eq ?_); simp [Ex.l, Ex.rows, Ex.row_eq])) (.cons (by first | exact C.le_refl _ | (refine C.le_trans C.le_nn (C.le_of_eq ?_); simp [Ex.l, Ex.rows, Ex.row_eq])) (.cons (by first | exact C.le_refl _ | (refine C.le_trans C.le_nn (C.le_of_eq ?_); simp [Ex.l, Ex.rows, Ex.row_eq])) (.cons (by first | exact C.le_refl _ | (refine C.le_trans C.le_nn (C.le_of_eq ?_); simp [Ex.l, Ex.rows, Ex.row_eq])) (.cons (by first | exact C.le_refl _ | (refine C.le_trans C.le_nn (C.le_of_eq ?_); simp [Ex.l, Ex.rows, Ex.row_eq])) (.cons (by first | exact C.le_refl _ | (refine C.le_trans C.le_nn (C.le_of_eq ?_); simp [Ex.l, Ex.rows, Ex.row_eq])) (.cons (by first | exact C.le_refl _ | (refine C.le_trans C.le_nn (C.le_of_eq ?_); simp [Ex.l, Ex.rows, Ex.row_eq])) (.cons (by first | exact C.le_refl _ | (refine C.le_trans C.le_nn (C.le_of_eq ?_); simp [Ex.l, Ex.rows, Ex.row_eq])) .nil)))))))))) .nil))))

end Go.Par
