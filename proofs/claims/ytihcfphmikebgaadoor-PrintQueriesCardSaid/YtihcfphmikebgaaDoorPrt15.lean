import Derived.Test.YtihcfphmikebgaaDoorPrt14
namespace Go.Par
open Go Go.Am Go.Proofs Go.RowKit
set_option linter.unusedVariables false
set_option linter.unusedSimpArgs false

theorem R_test_some {n : Nat} {p : Pst} {r : Ex × Pst} {s : ByteArray} (hr : r = R n (.parse .sum) p) (hf : cmps.find? r.2.is = some s) :
    R (n + 1) (.parse .test) p = (exOf (opOf s) [r.1, (R n (.parse .sum) r.2.step).1], (R n (.parse .sum) r.2.step).2) := by
  subst hr; rw [R, hf]
theorem R_test_none {n : Nat} {p : Pst} {r : Ex × Pst} (hr : r = R n (.parse .sum) p) (hf : cmps.find? r.2.is = none) (hi : r.2.is bIs = false) : R (n + 1) (.parse .test) p = r := by
  subst hr; rw [R, hf]; simp only [hi]; rfl
theorem R_test_is {n : Nat} {p : Pst} {r : Ex × Pst} (hr : r = R n (.parse .sum) p) (hf : cmps.find? r.2.is = none) (hi : r.2.is bIs = true) :
    R (n + 1) (.parse .test) p = (exOf (if (r.2.take bIs).is bNot then 14 else 13) [r.1], ((r.2.take bIs).take bNot).must bNull) := by
  subst hr; rw [R, hf, take_t hi]; simp only [hi]; rfl
theorem test_room {n : Nat} {p q : Pst} {s : ByteArray} (hk : Keeps p q) (hg : Good p) (hm : mz p + 3 ≤ n) (hs : q.is s = true) : Good q.step ∧ mz q.step + 3 ≤ n := by
  have he := Pst.is_e hs
  have hlt := Pst.is_lt hs
  refine ⟨(keeps_step hk.good hlt he).good, ?_⟩
  have hpe : p.e = 0 := by
    by_cases hc : p.e = 0
    · exact hc
    · rw [hk.err hc] at he; exact he
  have e1 : q.step.e = q.e := rfl
  have e2 : q.step.l = q.l := rfl
  have e3 : q.step.at_ = q.at_ + 1 := rfl
  have a := hk.at_
  have b := hk.l
  unfold mz at hm ⊢
  rw [if_pos hpe] at hm
  rw [e1, if_pos he, e2, e3, b]
  omega

theorem en_38 : enters Tryd.prog 38 = true := by kernel_rfl
theorem en_87 : enters Tryd.prog 87 = true := by kernel_rfl

set_option maxHeartbeats 2000000 in
theorem test_s (n : Nat) (p : Pst) (hg : Good p) (hm : mz p + 3 ≤ n)
    (hpart : ∀ k q, Good q → mz q + 3 ≤ k → k ≤ n → Am.Spec Tryd.prog 87 [A.c (.ref 0 0)] [(0, pbox q)] (exA (R k (.parse .sum) q).1) [(0, pbox (R k (.parse .sum) q).2)]) : Am.Spec Tryd.prog 76 [A.c (.ref 0 0)] [(0, pbox p)] (exA (R (n + 1) (.parse .test) p).1) [(0, pbox (R (n + 1) (.parse .test) p).2)] := by
  refine spec_ofN (n := 38) Tryd.func76 rfl rfl (nb rfl) ?_
  show AW _ _ (⟨[(0, A.c (.ref 0 0))], [(0, pbox p)], []⟩ : St) _
  have hkk := R_keeps n (.parse .sum) p hg
  obtain ⟨rR, hrR⟩ : ∃ r, r = R n (.parse .sum) p := ⟨_, rfl⟩
  have hk : Keeps p rR.2 := by rw [hrR]; exact hkk.1
  refine AW.seq ?_
  refine AW.region ?_
  refine AL.go (OpR.plain rfl (r_alloc 101 ti_27 zc_27 rfl rfl (nb rfl))) ?_
  refine AL.nil ?_
  refine thenN ?_
  refine AW.seq ?_
  refine AW.region ?_
  refine AL.go (OpR.plain rfl (r_move rfl (nb rfl) (by rintro _ ⟨⟩))) ?_
  refine AL.go (OpR.plain rfl (r_callId ((by rw [hrR]; exact hpart n p hg hm (ler _) : Am.Spec Tryd.prog 87 [A.c (.ref 0 0)] [(0, pbox p)] (exA rR.1) [(0, pbox rR.2)])) en_87 rfl rfl rfl rfl (.cons (A.le_refl _) .nil) rfl (.cons rfl .nil) rfl rfl rfl (nb rfl))) ?_
  refine AL.go (OpR.plain rfl (r_alloc 102 ti_27 zc_27 rfl rfl (nb rfl))) ?_
  refine AL.go (OpR.plain rfl (r_storeN ti_27 rfl rfl rfl rfl rfl (nb rfl) (by simp only [putAt, tks, tkz, tkn, dps, dpz, cap, nap, apn, lnc, lnn, zad, Nat.reduceAdd, adz]; rfl) (by rintro _ ⟨⟩))) ?_
  refine AL.nil ?_
  refine thenN ?_
  refine AW.seq ?_
  refine AW.seq ?_
  refine AW.region ?_
  refine AL.go (OpR.plain rfl (r_buildSlice un_60 ti_9 rfl rfl rfl rfl rfl (by decide) (by decide) rfl (nb rfl))) ?_
  refine AL.go (OpR.plain rfl (r_len un_60 rfl (by first | exact .sl | exact .own | exact .row | exact .nil) (by intro _ h; cases h) (nb rfl) (by rintro _ ⟨⟩))) ?_
  refine AL.go (OpR.plain rfl (r_move rfl (nb rfl) (by rintro _ ⟨⟩; rfl))) ?_
  refine AL.nil ?_
  refine thenN ?_
  refine AW.block ?_
  refine AW.loop (ι := { x : Nat // x ≤ 6 ∧ (cmps.drop x).find? rR.2.is = cmps.find? rR.2.is }) (fun x => ⟨[(0, A.c (.ref 0 0)), (2, A.c (.ref 101 0)), (3, A.c (.ref 102 0)), (9, A.c (.d (.sl true (strRows cmps)))), (10, A.i64 6), (11, A.i64 (x.1 : Int))], [(0, pbox rR.2), (101, .box [.d (.v (.int .i64 0)), .d (.v (.string { data := #[] })), .d (.v (.string { data := #[] })), .d (.v (.int .i64 0)), .d (.v (.int .i64 0)), .d (.v (.int .i64 0)), .d (.v (.int .i64 0)), .d (.v (.string { data := #[] })), .d (.v (.slice none 0 0))]), (102, exBox rR.1)], []⟩) (fun x => 6 - x.1) ⟨0, by simp⟩ (weakens_id (.cons rfl (A.le_of_eq (by first | rfl | (simp [A.ren, C.ren, renOf, lk]; done) | (simp [A.ren, C.ren, renOf, lk]; omega) | omega)) (.cons rfl (A.le_of_eq (by first | rfl | (simp [A.ren, C.ren, renOf, lk]; done) | (simp [A.ren, C.ren, renOf, lk]; omega) | omega)) (.cons rfl (A.le_of_eq (by first | rfl | (simp [A.ren, C.ren, renOf, lk]; done) | (simp [A.ren, C.ren, renOf, lk]; omega) | omega)) (.cons rfl (A.le_of_eq (by first | rfl | (simp [A.ren, C.ren, renOf, lk]; done) | (simp [A.ren, C.ren, renOf, lk]; omega) | omega)) (.cons rfl (A.le_of_eq (by first | rfl | (simp [A.ren, C.ren, renOf, lk]; done) | (simp [A.ren, C.ren, renOf, lk]; omega) | omega)) (.cons rfl (A.le_of_eq (by first | rfl | (simp [A.ren, C.ren, renOf, lk]; done) | (simp [A.ren, C.ren, renOf, lk]; omega) | omega)) .nil)))))) (.cons rfl (Ob.le_refl _) (.cons rfl (Ob.le_refl _) (.cons rfl (Ob.le_refl _) .nil))) rfl rfl rfl rfl) ?_
  rintro ⟨jJ, hI⟩
  have hw : cmps.length = 6 := rfl; have hIa := hI.1
  show AW _ _ (⟨[(0, A.c (.ref 0 0)), (2, A.c (.ref 101 0)), (3, A.c (.ref 102 0)), (9, A.c (.d (.sl true (strRows cmps)))), (10, A.i64 6), (11, A.i64 (jJ : Int))], [(0, pbox rR.2), (101, .box [.d (.v (.int .i64 0)), .d (.v (.string { data := #[] })), .d (.v (.string { data := #[] })), .d (.v (.int .i64 0)), .d (.v (.int .i64 0)), .d (.v (.int .i64 0)), .d (.v (.int .i64 0)), .d (.v (.string { data := #[] })), .d (.v (.slice none 0 0))]), (102, exBox rR.1)], []⟩ : St) _
  refine AW.seq ?_
  refine AW.region ?_
  refine AL.go (OpR.plain rfl (r_bin rfl rfl (nb rfl) rfl (run_int_lss _ _ _))) ?_
  refine AL.nil ?_
  refine thenN ?_
  refine AW.seq ?_
  refine AW.condb rfl (fun h1 => ?_) (fun h1 => ?_)
  · have h1n := h1; try simp only [dtt, dff, bqi, bqf, bni, bnf, nt1, nf1, nt0, nf0, ne_eq, ilt, ile, Int.toNat_natCast, List.length_map] at h1n
    refine AW.skip ?_
    refine thenN ?_
    refine AW.seq ?_
    refine AW.block ?_
    refine AW.seq ?_
    refine AW.region ?_
    refine AL.go (OpR.plain rfl (r_indexAddr un_60 ti_9 rfl (by first | exact .inl rfl | exact .inr ⟨_, rfl⟩) rfl str_len (by first | omega | (simp only [dtt, dff, bqi, bqf, bni, nt1, nf1] at *; omega)) (str_at (by omega) (by omega)) (nb rfl))) ?_
    first | refine AL.go (OpR.plain rfl (r_load ti_9 rfl rfl rfl (nb rfl))) ?_ | refine AL.go (OpR.plain rfl (r_loadp ti_9 rfl rfl (nb rfl))) ?_
    refine AL.go (OpR.plain rfl (r_assign rfl (nb rfl) (by rintro _ ⟨⟩))) ?_
    refine AL.nil ?_
    refine thenN ?_
    refine AW.seq ?_
    refine AW.region ?_
    refine AL.go (OpR.plain rfl (r_move rfl (nb rfl) (by rintro _ ⟨⟩))) ?_
    refine AL.go (OpR.plain rfl (r_move rfl (nb rfl) (by rintro _ ⟨⟩))) ?_
    refine AL.go (OpR.plain rfl (r_callId (take_s rR.2 hk.good.ok _) en_42 rfl rfl rfl rfl (.cons (A.le_refl _) (.cons (A.le_refl _) .nil)) rfl (.cons rfl .nil) rfl rfl rfl (nb rfl))) ?_
    refine AL.nil ?_
    refine thenN ?_
    refine AW.condb rfl (fun h2 => ?_) (fun h2 => ?_)
    · have h2n := h2; try simp only [dtt, dff, bqi, bqf, bni, bnf, nt1, nf1, nt0, nf0, ne_eq, ilt, ile, Int.toNat_natCast, List.length_map] at h2n
      refine AW.seq ?_
      refine AW.draw ?_
      have hs : rR.2.is (cmps.getD jJ ⟨#[]⟩) = true := by simp_all
      have hR := test_room hk hg hm hs
      have hfind : cmps.find? rR.2.is = some (cmps.getD jJ ⟨#[]⟩) := by
        rw [← hI.2, find_step (i := jJ) (by omega), if_pos hs]
      refine DW.go (OpR.plain rfl (r_move rfl (nb rfl) (by rintro _ ⟨⟩))) ?_
      refine DW.go (OpR.plain rfl (r_callFun (opOf_s _) en_62 rfl rfl rfl rfl (.cons (A.le_refl _) .nil) rfl (nb rfl))) ?_
      first | refine DW.go (OpR.plain rfl (r_load ti_27 rfl rfl (by simp only [loaded, mpc, mpn, if_true, ler, tks, tkz, tkn, dps, dpz, cap, nap, apn, lnc, lnn, zad, Nat.reduceAdd, adz]; rfl) (nb rfl))) ?_ | refine DW.go (OpR.plain rfl (r_loadp ti_27 rfl (by simp only [loaded, mpc, mpn, if_true, ler, tks, tkz, tkn, dps, dpz, cap, nap, apn, lnc, lnn, zad, Nat.reduceAdd, adz]; rfl) (nb rfl))) ?_
      refine DW.go (OpR.plain rfl (r_move rfl (nb rfl) (by rintro _ ⟨⟩))) ?_
      refine DW.go (OpR.plain rfl (r_callId (hpart n rR.2.step hR.1 hR.2 (ler _)) en_87 rfl rfl rfl rfl (.cons (A.le_refl _) .nil) rfl (.cons (Eq.trans (b := some (pbox (rR.2.take (cmps.getD jJ ⟨#[]⟩)))) rfl (by rw [take_t hs])) .nil) rfl rfl rfl (nb rfl))) ?_
      refine DW.go (OpR.plain rfl (r_buildSlice un_25 ti_27 rfl rfl rfl rfl rfl (by decide) (by decide) rfl (nb rfl))) ?_
      refine DW.go (OpR.plain rfl (r_callFun (of_s _ [rR.1, (R n (.parse .sum) rR.2.step).1] (by simp)) en_55 rfl rfl rfl rfl (.cons (A.le_refl _) (.cons (A.le_of_eq (by simp [Ex.rows, Ex.row_eq])) .nil)) rfl (nb rfl))) ?_
      refine DW.go (OpR.plain rfl (r_storeN ti_27 rfl rfl rfl rfl rfl (nb rfl) (by simp only [putAt, tks, tkz, tkn, dps, dpz, cap, nap, apn, lnc, lnn, zad, Nat.reduceAdd, adz]; rfl) (by rintro _ ⟨⟩))) ?_
      refine DW.fin mixed (by kernel_rfl) (by kernel_rfl) ?_
      refine thenN ?_
      refine AW.ret ?_
      refine inbR ?_
      refine thenR ?_
      refine thenR ?_
      refine inbR ?_
      refine thenR ?_
      refine fin_id (.inr rfl) (ends_of rfl (.cell ti_27 rfl rfl (by simp only [loaded, if_true, ler, tks, tkz, tkn, dps, dpz, cap, nap, apn, lnc, lnn, zad, Nat.reduceAdd, adz]; rfl) .nil)) ?_ (.cons rfl (Ob.le_of_eq (by first | rw [R_test_some hrR hfind] | (rw [R_test_none hrR (by rw [← hI.2, List.drop_eq_nil_of_le (by omega)]; rfl) (by assumption)]; exact congrArg pbox (take_f (by assumption))) | rw [R_test_is hrR (by rw [← hI.2, List.drop_eq_nil_of_le (by omega)]; rfl) (by assumption)])) .nil) rfl rfl rfl rfl
      simp only [retA]
      first | (rw [R_test_some hrR hfind]; exact A.le_refl _) | (rw [R_test_none hrR (by rw [← hI.2, List.drop_eq_nil_of_le (by omega)]; rfl) (by assumption)]; exact A.le_refl _) | (rw [R_test_is hrR (by rw [← hI.2, List.drop_eq_nil_of_le (by omega)]; rfl) (by assumption)]; first | (rw [if_pos (by assumption)]; exact A.le_refl _) | (rw [if_neg (by simp_all)]; exact A.le_refl _))
    · have h2n := h2; try simp only [dtt, dff, bqi, bqf, bni, bnf, nt1, nf1, nt0, nf0, ne_eq, ilt, ile, Int.toNat_natCast, List.length_map] at h2n
      refine AW.skip ?_
      refine inbN ?_
      refine thenN ?_
      refine AW.region ?_
      refine AL.go (OpR.plain rfl (r_add rfl rfl (nb rfl) (by first | omega | (simp only [dtt, dff, bqi, bqf, bni, nt1, nf1] at *; omega)) (by first | omega | (simp only [dtt, dff, bqi, bqf, bni, nt1, nf1] at *; omega)))) ?_
      refine AL.go (OpR.plain rfl (r_move rfl (nb rfl) (by rintro _ ⟨⟩))) ?_
      refine AL.nil ?_
      refine thenN ?_
      have hsF : rR.2.is (cmps.getD jJ ⟨#[]⟩) = false := by simp_all
      refine ⟨⟨jJ + 1, by exact ⟨by omega, by rw [← hI.2, find_step (i := jJ) (by omega), if_neg (by rw [hsF]; decide)]⟩⟩, by simp only; omega, weakens_id (.cons rfl (A.le_of_eq (by first | rfl | (simp [A.ren, C.ren, renOf, lk]; done) | (simp [A.ren, C.ren, renOf, lk]; omega) | omega)) (.cons rfl (A.le_of_eq (by first | rfl | (simp [A.ren, C.ren, renOf, lk]; done) | (simp [A.ren, C.ren, renOf, lk]; omega) | omega)) (.cons rfl (A.le_of_eq (by first | rfl | (simp [A.ren, C.ren, renOf, lk]; done) | (simp [A.ren, C.ren, renOf, lk]; omega) | omega)) (.cons rfl (A.le_of_eq (by first | rfl | (simp [A.ren, C.ren, renOf, lk]; done) | (simp [A.ren, C.ren, renOf, lk]; omega) | omega)) (.cons rfl (A.le_of_eq (by first | rfl | (simp [A.ren, C.ren, renOf, lk]; done) | (simp [A.ren, C.ren, renOf, lk]; omega) | omega)) (.cons rfl (A.le_of_eq (by first | rfl | (simp [A.ren, C.ren, renOf, lk]; done) | (simp [A.ren, C.ren, renOf, lk]; omega) | omega)) .nil)))))) (.cons rfl (Ob.le_of_eq (congrArg pbox (take_f hsF))) (.cons rfl (Ob.le_refl _) (.cons rfl (Ob.le_refl _) .nil))) rfl rfl rfl rfl⟩
  · have h1n := h1; try simp only [dtt, dff, bqi, bqf, bni, bnf, nt1, nf1, nt0, nf0, ne_eq, ilt, ile, Int.toNat_natCast, List.length_map] at h1n
    refine AW.exit ?_
    refine thenX ?_
    refine thenX ?_
    refine inbE ?_
    refine thenN ?_
    refine AW.seq ?_
    refine AW.seq ?_
    refine AW.region ?_
    refine AL.go (OpR.plain rfl (r_move rfl (nb rfl) (by rintro _ ⟨⟩))) ?_
    refine AL.go (OpR.plain rfl (r_callId (take_s rR.2 hk.good.ok _) en_42 rfl rfl rfl rfl (.cons (A.le_refl _) (.cons (A.le_refl _) .nil)) rfl (.cons rfl .nil) rfl rfl rfl (nb rfl))) ?_
    refine AL.go (OpR.plain rfl (r_not rfl (nb rfl))) ?_
    refine AL.nil ?_
    refine thenN ?_
    refine AW.condb rfl (fun h3 => ?_) (fun h3 => ?_)
    · have h3n := h3; try simp only [dtt, dff, bqi, bqf, bni, bnf, nt1, nf1, nt0, nf0, ne_eq, ilt, ile, Int.toNat_natCast, List.length_map] at h3n
      refine AW.seq ?_
      refine AW.region ?_
      first | refine AL.go (OpR.plain rfl (r_load ti_27 rfl rfl (by simp only [loaded, mpc, mpn, if_true, ler, tks, tkz, tkn, dps, dpz, cap, nap, apn, lnc, lnn, zad, Nat.reduceAdd, adz]; rfl) (nb rfl))) ?_ | refine AL.go (OpR.plain rfl (r_loadp ti_27 rfl (by simp only [loaded, mpc, mpn, if_true, ler, tks, tkz, tkn, dps, dpz, cap, nap, apn, lnc, lnn, zad, Nat.reduceAdd, adz]; rfl) (nb rfl))) ?_
      refine AL.go (OpR.plain rfl (r_storeN ti_27 rfl rfl rfl rfl rfl (nb rfl) (by simp only [putAt, tks, tkz, tkn, dps, dpz, cap, nap, apn, lnc, lnn, zad, Nat.reduceAdd, adz]; rfl) (by rintro _ ⟨⟩))) ?_
      refine AL.nil ?_
      refine thenN ?_
      refine AW.ret ?_
      refine thenR ?_
      refine fin_id (.inr rfl) (ends_of rfl (.cell ti_27 rfl rfl (by simp only [loaded, if_true, ler, tks, tkz, tkn, dps, dpz, cap, nap, apn, lnc, lnn, zad, Nat.reduceAdd, adz]; rfl) .nil)) ?_ (.cons rfl (Ob.le_of_eq (by first | rw [R_test_some hrR hfind] | (rw [R_test_none hrR (by rw [← hI.2, List.drop_eq_nil_of_le (by omega)]; rfl) (by assumption)]; exact congrArg pbox (take_f (by assumption))) | rw [R_test_is hrR (by rw [← hI.2, List.drop_eq_nil_of_le (by omega)]; rfl) (by assumption)])) .nil) rfl rfl rfl rfl
      simp only [retA]
      first | (rw [R_test_some hrR hfind]; exact A.le_refl _) | (rw [R_test_none hrR (by rw [← hI.2, List.drop_eq_nil_of_le (by omega)]; rfl) (by assumption)]; exact A.le_refl _) | (rw [R_test_is hrR (by rw [← hI.2, List.drop_eq_nil_of_le (by omega)]; rfl) (by assumption)]; first | (rw [if_pos (by assumption)]; exact A.le_refl _) | (rw [if_neg (by simp_all)]; exact A.le_refl _))
    · have h3n := h3; try simp only [dtt, dff, bqi, bqf, bni, bnf, nt1, nf1, nt0, nf0, ne_eq, ilt, ile, Int.toNat_natCast, List.length_map] at h3n
      refine AW.skip ?_
      refine thenN ?_
      refine AW.seq ?_
      refine AW.region ?_
      refine AL.go (OpR.plain rfl (r_assign rfl (nb rfl) (by rintro _ ⟨⟩; rfl))) ?_
      refine AL.nil ?_
      refine thenN ?_
      refine AW.seq ?_
      refine AW.seq ?_
      refine AW.region ?_
      refine AL.go (OpR.plain rfl (r_move rfl (nb rfl) (by rintro _ ⟨⟩))) ?_
      refine AL.go (OpR.plain rfl (r_callId (take_s (rR.2.take bIs) (hk.good.ok.take _) bNot) en_42 rfl rfl rfl rfl (.cons (A.le_refl _) (.cons (A.le_refl _) .nil)) rfl (.cons rfl .nil) rfl rfl rfl (nb rfl))) ?_
      refine AL.nil ?_
      refine thenN ?_
      refine AW.condb rfl (fun h4 => ?_) (fun h4 => ?_)
      · have h4n := h4; try simp only [dtt, dff, bqi, bqf, bni, bnf, nt1, nf1, nt0, nf0, ne_eq, ilt, ile, Int.toNat_natCast, List.length_map] at h4n
        refine AW.region ?_
        refine AL.go (OpR.plain rfl (r_assign rfl (nb rfl) (by rintro _ ⟨⟩; rfl))) ?_
        refine AL.nil ?_
        refine thenN ?_
        refine AW.seq ?_
        refine AW.region ?_
        refine AL.go (OpR.plain rfl (r_move rfl (nb rfl) (by rintro _ ⟨⟩))) ?_
        refine AL.go (OpR.plain rfl (r_callId (must_s ((rR.2.take bIs).take bNot) ((hk.good.ok.take _).take _) bNull) en_38 rfl rfl rfl rfl (.cons (A.le_refl _) (.cons (A.le_refl _) .nil)) rfl (.cons rfl .nil) rfl rfl rfl (nb rfl))) ?_
        refine AL.nil ?_
        refine thenN ?_
        refine AW.seq ?_
        refine AW.region ?_
        refine AL.go (OpR.plain rfl (r_move rfl (nb rfl) (by rintro _ ⟨⟩))) ?_
        first | refine AL.go (OpR.plain rfl (r_load ti_27 rfl rfl (by simp only [loaded, mpc, mpn, if_true, ler, tks, tkz, tkn, dps, dpz, cap, nap, apn, lnc, lnn, zad, Nat.reduceAdd, adz]; rfl) (nb rfl))) ?_ | refine AL.go (OpR.plain rfl (r_loadp ti_27 rfl (by simp only [loaded, mpc, mpn, if_true, ler, tks, tkz, tkn, dps, dpz, cap, nap, apn, lnc, lnn, zad, Nat.reduceAdd, adz]; rfl) (nb rfl))) ?_
        refine AL.go (OpR.plain rfl (r_buildSlice un_25 ti_27 rfl rfl rfl rfl rfl (by decide) (by decide) rfl (nb rfl))) ?_
        refine AL.go (OpR.plain rfl (r_callFun (of_s _ [rR.1] (by simp)) en_55 rfl rfl rfl rfl (.cons (A.le_refl _) (.cons (A.le_of_eq (by simp [Ex.rows, Ex.row_eq])) .nil)) rfl (nb rfl))) ?_
        refine AL.go (OpR.plain rfl (r_storeN ti_27 rfl rfl rfl rfl rfl (nb rfl) (by simp only [putAt, tks, tkz, tkn, dps, dpz, cap, nap, apn, lnc, lnn, zad, Nat.reduceAdd, adz]; rfl) (by rintro _ ⟨⟩))) ?_
        refine AL.nil ?_
        refine thenN ?_
        refine AW.ret ?_
        refine fin_id (.inr rfl) (ends_of rfl (.cell ti_27 rfl rfl (by simp only [loaded, if_true, ler, tks, tkz, tkn, dps, dpz, cap, nap, apn, lnc, lnn, zad, Nat.reduceAdd, adz]; rfl) .nil)) ?_ (.cons rfl (Ob.le_of_eq (by first | rw [R_test_some hrR hfind] | (rw [R_test_none hrR (by rw [← hI.2, List.drop_eq_nil_of_le (by omega)]; rfl) (by assumption)]; exact congrArg pbox (take_f (by assumption))) | rw [R_test_is hrR (by rw [← hI.2, List.drop_eq_nil_of_le (by omega)]; rfl) (by assumption)])) .nil) rfl rfl rfl rfl
        simp only [retA]
        first | (rw [R_test_some hrR hfind]; exact A.le_refl _) | (rw [R_test_none hrR (by rw [← hI.2, List.drop_eq_nil_of_le (by omega)]; rfl) (by assumption)]; exact A.le_refl _) | (rw [R_test_is hrR (by rw [← hI.2, List.drop_eq_nil_of_le (by omega)]; rfl) (by assumption)]; first | (rw [if_pos (by assumption)]; exact A.le_refl _) | (rw [if_neg (by simp_all)]; exact A.le_refl _))
      · have h4n := h4; try simp only [dtt, dff, bqi, bqf, bni, bnf, nt1, nf1, nt0, nf0, ne_eq, ilt, ile, Int.toNat_natCast, List.length_map] at h4n
        refine AW.skip ?_
        refine thenN ?_
        refine AW.seq ?_
        refine AW.region ?_
        refine AL.go (OpR.plain rfl (r_move rfl (nb rfl) (by rintro _ ⟨⟩))) ?_
        refine AL.go (OpR.plain rfl (r_callId (must_s ((rR.2.take bIs).take bNot) ((hk.good.ok.take _).take _) bNull) en_38 rfl rfl rfl rfl (.cons (A.le_refl _) (.cons (A.le_refl _) .nil)) rfl (.cons rfl .nil) rfl rfl rfl (nb rfl))) ?_
        refine AL.nil ?_
        refine thenN ?_
        refine AW.seq ?_
        refine AW.region ?_
        refine AL.go (OpR.plain rfl (r_move rfl (nb rfl) (by rintro _ ⟨⟩))) ?_
        first | refine AL.go (OpR.plain rfl (r_load ti_27 rfl rfl (by simp only [loaded, mpc, mpn, if_true, ler, tks, tkz, tkn, dps, dpz, cap, nap, apn, lnc, lnn, zad, Nat.reduceAdd, adz]; rfl) (nb rfl))) ?_ | refine AL.go (OpR.plain rfl (r_loadp ti_27 rfl (by simp only [loaded, mpc, mpn, if_true, ler, tks, tkz, tkn, dps, dpz, cap, nap, apn, lnc, lnn, zad, Nat.reduceAdd, adz]; rfl) (nb rfl))) ?_
        refine AL.go (OpR.plain rfl (r_buildSlice un_25 ti_27 rfl rfl rfl rfl rfl (by decide) (by decide) rfl (nb rfl))) ?_
        refine AL.go (OpR.plain rfl (r_callFun (of_s _ [rR.1] (by simp)) en_55 rfl rfl rfl rfl (.cons (A.le_refl _) (.cons (A.le_of_eq (by simp [Ex.rows, Ex.row_eq])) .nil)) rfl (nb rfl))) ?_
        refine AL.go (OpR.plain rfl (r_storeN ti_27 rfl rfl rfl rfl rfl (nb rfl) (by simp only [putAt, tks, tkz, tkn, dps, dpz, cap, nap, apn, lnc, lnn, zad, Nat.reduceAdd, adz]; rfl) (by rintro _ ⟨⟩))) ?_
        refine AL.nil ?_
        refine thenN ?_
        refine AW.ret ?_
        refine fin_id (.inr rfl) (ends_of rfl (.cell ti_27 rfl rfl (by simp only [loaded, if_true, ler, tks, tkz, tkn, dps, dpz, cap, nap, apn, lnc, lnn, zad, Nat.reduceAdd, adz]; rfl) .nil)) ?_ (.cons rfl (Ob.le_of_eq (by first | rw [R_test_some hrR hfind] | (rw [R_test_none hrR (by rw [← hI.2, List.drop_eq_nil_of_le (by omega)]; rfl) (by assumption)]; exact congrArg pbox (take_f (by assumption))) | rw [R_test_is hrR (by rw [← hI.2, List.drop_eq_nil_of_le (by omega)]; rfl) (by assumption)])) .nil) rfl rfl rfl rfl
        simp only [retA]
        first | (rw [R_test_some hrR hfind]; exact A.le_refl _) | (rw [R_test_none hrR (by rw [← hI.2, List.drop_eq_nil_of_le (by omega)]; rfl) (by assumption)]; exact A.le_refl _) | (rw [R_test_is hrR (by rw [← hI.2, List.drop_eq_nil_of_le (by omega)]; rfl) (by assumption)]; first | (rw [if_pos (by assumption)]; exact A.le_refl _) | (rw [if_neg (by simp_all)]; exact A.le_refl _))

end Go.Par
