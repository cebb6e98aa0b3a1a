import Derived.Test.YtihcfphmikebgaaPar29
namespace Go.Par
open Go Go.Am Go.Proofs Go.RowKit
set_option linter.unusedVariables false
set_option linter.unusedSimpArgs false

def liveT : ByteArray := ⟨#[97, 46, 120, 32, 43, 32, 49, 32, 42, 32, 50, 32, 60, 32, 121]⟩

set_option maxHeartbeats 2000000 in
theorem live_g (x : Ex × Int) (hx : Am.Fun Try.prog 5 [A.val (.string liveT)] (A.tup [exA x.1, A.i64 x.2])) (h2 : x.2 = 0) (h3 : x.1.op = 3) (a b : Ex) (h4 : x.1.l = [a, b]) (ha : a.op = 7) (hb : b.name = ⟨#[121]⟩) : Am.Spec Try.prog 4 [] [] (A.bool true) [] := by
  refine spec_ofN (n := 37) Try.func4 rfl rfl (nb rfl) ?_
  show AW _ _ (⟨[], [], []⟩ : St) _
  have hlen : x.1.l.length = 2 := by rw [h4]; rfl
  refine AW.seq ?_
  refine AW.region ?_
  refine AL.go (OpR.plain rfl (r_assign rfl (nb rfl) (by rintro _ ⟨⟩; rfl))) ?_
  refine AL.nil ?_
  refine thenN ?_
  refine AW.seq ?_
  refine AW.region ?_
  refine AL.go (OpR.plain rfl (r_callFun (hx) en_5 rfl rfl rfl rfl (.cons (A.le_refl _) .nil) rfl (nb rfl))) ?_
  refine AL.go (OpR.plain rfl (r_move rfl (nb rfl) (by rintro _ ⟨⟩))) ?_
  refine AL.go (OpR.plain rfl (r_extract rfl rfl (nb rfl))) ?_
  refine AL.go (OpR.plain rfl (r_extract rfl rfl (nb rfl))) ?_
  refine AL.go (OpR.plain rfl (r_alloc 101 ti_27 zc_27 rfl rfl (nb rfl))) ?_
  refine AL.go (OpR.plain rfl (r_storeN ti_27 rfl rfl rfl rfl rfl (nb rfl) (by simp only [putAt, tks, tkz, tkn, dps, dpz, cap, nap, apn, lnc, lnn, zad, Nat.reduceAdd, adz]; rfl) (by rintro _ ⟨⟩))) ?_
  refine AL.go (OpR.plain rfl (r_assign rfl (nb rfl) (by rintro _ ⟨⟩))) ?_
  refine AL.nil ?_
  refine thenN ?_
  refine AW.seq ?_
  refine AW.region ?_
  refine AL.go (OpR.plain rfl (r_move rfl (nb rfl) (by rintro _ ⟨⟩))) ?_
  refine AL.go (OpR.plain rfl (r_callFun (code_s _) en_9 rfl rfl rfl rfl (.cons (A.le_refl _) .nil) rfl (nb rfl))) ?_
  refine AL.go (OpR.plain rfl (r_bin rfl rfl (nb rfl) rfl (run_int_eql _ _ _))) ?_
  refine AL.go (OpR.plain rfl (r_move rfl (nb rfl) (by rintro _ ⟨⟩))) ?_
  refine AL.ifb (t := 10) rfl (fun h1 => ?_) (fun h1 => ?_)
  · have h1n := h1; try simp only [dtt, dff, bqi, bqf, bni, bnf, nt1, nf1, nt0, nf0, ne_eq, ilt, ile, rows_length] at h1n
    first | refine AL.go (OpR.onb rfl rfl (nb rfl) rfl (h1) (r_fieldAddr fo_27_0 (by decide) rfl (nb rfl))) ?_ | refine AL.go (OpR.onb rfl rfl (nb rfl) rfl (h1) (r_fieldAddrp fo_27_0 (by decide) rfl (nb rfl))) ?_
    first | refine AL.go (OpR.onb rfl rfl (nb rfl) rfl (h1) (r_load ti_3 rfl rfl rfl (nb rfl))) ?_ | refine AL.go (OpR.onb rfl rfl (nb rfl) rfl (h1) (r_loadp ti_3 rfl rfl (nb rfl))) ?_
    refine AL.go (OpR.onb rfl rfl (nb rfl) rfl (h1) (r_bin rfl rfl (nb rfl) rfl (run_int_eql _ _ _))) ?_
    refine AL.go (OpR.plain rfl (r_pickTb rfl (h1) rfl (nb rfl) (by rintro _ ⟨⟩))) ?_
    refine AL.go (OpR.plain rfl (r_move rfl (nb rfl) (by rintro _ ⟨⟩))) ?_
    refine AL.ifb (t := 15) rfl (fun h2 => ?_) (fun h2 => ?_)
    · have h2n := h2; try simp only [dtt, dff, bqi, bqf, bni, bnf, nt1, nf1, nt0, nf0, ne_eq, ilt, ile, rows_length] at h2n
      first | refine AL.go (OpR.onb rfl rfl (nb rfl) rfl (h2) (r_fieldAddr fo_27_6 (by decide) rfl (nb rfl))) ?_ | refine AL.go (OpR.onb rfl rfl (nb rfl) rfl (h2) (r_fieldAddrp fo_27_6 (by decide) rfl (nb rfl))) ?_
      first | refine AL.go (OpR.onb rfl rfl (nb rfl) rfl (h2) (r_load ti_25 rfl rfl rfl (nb rfl))) ?_ | refine AL.go (OpR.onb rfl rfl (nb rfl) rfl (h2) (r_loadp ti_25 rfl rfl (nb rfl))) ?_
      refine AL.go (OpR.onb rfl rfl (nb rfl) rfl (h2) (r_len un_25 rfl (by first | exact .sl | exact .own | exact .row | exact .nil) (by intro _ h; cases h) (nb rfl) (by rintro _ ⟨⟩))) ?_
      refine AL.go (OpR.onb rfl rfl (nb rfl) rfl (h2) (r_bin rfl rfl (nb rfl) rfl (run_int_eql _ _ _))) ?_
      refine AL.go (OpR.plain rfl (r_pickTb rfl (h2) rfl (nb rfl) (by rintro _ ⟨⟩))) ?_
      refine AL.go (OpR.plain rfl (r_move rfl (nb rfl) (by rintro _ ⟨⟩))) ?_
      refine AL.ifb (t := 21) rfl (fun h3 => ?_) (fun h3 => ?_)
      · have h3n := h3; try simp only [dtt, dff, bqi, bqf, bni, bnf, nt1, nf1, nt0, nf0, ne_eq, ilt, ile, rows_length] at h3n
        first | refine AL.go (OpR.onb rfl rfl (nb rfl) rfl (h3) (r_fieldAddr fo_27_6 (by decide) rfl (nb rfl))) ?_ | refine AL.go (OpR.onb rfl rfl (nb rfl) rfl (h3) (r_fieldAddrp fo_27_6 (by decide) rfl (nb rfl))) ?_
        first | refine AL.go (OpR.onb rfl rfl (nb rfl) rfl (h3) (r_load ti_25 rfl rfl rfl (nb rfl))) ?_ | refine AL.go (OpR.onb rfl rfl (nb rfl) rfl (h3) (r_loadp ti_25 rfl rfl (nb rfl))) ?_
        refine AL.go (OpR.onb rfl rfl (nb rfl) rfl (h3) (r_indexAddr un_25 ti_27 rfl (by first | exact .inl rfl | exact .inr ⟨_, rfl⟩) rfl rows_len (by first | omega | (simp only [dtt, dff, bqi, bqf, bni, nt1, nf1] at *; omega)) (ex_at (by omega) (by omega)) (nb rfl))) ?_
        first | refine AL.go (OpR.onb rfl rfl (nb rfl) rfl (h3) (r_fieldAddr fo_27_0 (by decide) rfl (nb rfl))) ?_ | refine AL.go (OpR.onb rfl rfl (nb rfl) rfl (h3) (r_fieldAddrp fo_27_0 (by decide) rfl (nb rfl))) ?_
        first | refine AL.go (OpR.onb rfl rfl (nb rfl) rfl (h3) (r_load ti_3 rfl rfl rfl (nb rfl))) ?_ | refine AL.go (OpR.onb rfl rfl (nb rfl) rfl (h3) (r_loadp ti_3 rfl rfl (nb rfl))) ?_
        refine AL.go (OpR.onb rfl rfl (nb rfl) rfl (h3) (r_bin rfl rfl (nb rfl) rfl (run_int_eql _ _ _))) ?_
        refine AL.go (OpR.plain rfl (r_pickTb rfl (h3) rfl (nb rfl) (by rintro _ ⟨⟩))) ?_
        refine AL.go (OpR.plain rfl (r_move rfl (nb rfl) (by rintro _ ⟨⟩))) ?_
        refine AL.ifb (t := 29) rfl (fun h4 => ?_) (fun h4 => ?_)
        · have h4n := h4; try simp only [dtt, dff, bqi, bqf, bni, bnf, nt1, nf1, nt0, nf0, ne_eq, ilt, ile, rows_length] at h4n
          first | refine AL.go (OpR.onb rfl rfl (nb rfl) rfl (h4) (r_fieldAddr fo_27_6 (by decide) rfl (nb rfl))) ?_ | refine AL.go (OpR.onb rfl rfl (nb rfl) rfl (h4) (r_fieldAddrp fo_27_6 (by decide) rfl (nb rfl))) ?_
          first | refine AL.go (OpR.onb rfl rfl (nb rfl) rfl (h4) (r_load ti_25 rfl rfl rfl (nb rfl))) ?_ | refine AL.go (OpR.onb rfl rfl (nb rfl) rfl (h4) (r_loadp ti_25 rfl rfl (nb rfl))) ?_
          refine AL.go (OpR.onb rfl rfl (nb rfl) rfl (h4) (r_indexAddr un_25 ti_27 rfl (by first | exact .inl rfl | exact .inr ⟨_, rfl⟩) rfl rows_len (by first | omega | (simp only [dtt, dff, bqi, bqf, bni, nt1, nf1] at *; omega)) (ex_at (by omega) (by omega)) (nb rfl))) ?_
          first | refine AL.go (OpR.onb rfl rfl (nb rfl) rfl (h4) (r_fieldAddr fo_27_2 (by decide) rfl (nb rfl))) ?_ | refine AL.go (OpR.onb rfl rfl (nb rfl) rfl (h4) (r_fieldAddrp fo_27_2 (by decide) rfl (nb rfl))) ?_
          first | refine AL.go (OpR.onb rfl rfl (nb rfl) rfl (h4) (r_load ti_9 rfl rfl rfl (nb rfl))) ?_ | refine AL.go (OpR.onb rfl rfl (nb rfl) rfl (h4) (r_loadp ti_9 rfl rfl (nb rfl))) ?_
          refine AL.go (OpR.onb rfl rfl (nb rfl) rfl (h4) (r_bin rfl rfl (nb rfl) rfl (run_str_eql _ _))) ?_
          refine AL.go (OpR.plain rfl (r_pickTb rfl (h4) rfl (nb rfl) (by rintro _ ⟨⟩))) ?_
          refine AL.go (OpR.plain rfl (r_assign rfl (nb rfl) (by rintro _ ⟨⟩))) ?_
          refine AL.nil ?_
          refine thenN ?_
          refine AW.ret ?_
          refine fin_id (.inr rfl) (ends_of rfl (.tmp rfl .nil)) ?_ .nil rfl rfl rfl rfl
          simp only [retA]
          first | exact A.le_refl _ | (refine A.le_of_eq ?_; simp_all [Ex.op, rows_length]; done) | (exfalso; simp_all [rows_length]; done)
        · have h4n := h4; try simp only [dtt, dff, bqi, bqf, bni, bnf, nt1, nf1, nt0, nf0, ne_eq, ilt, ile, rows_length] at h4n
          refine AL.go (.off rfl rfl (nb rfl) rfl (by rw [h4]; decide) rfl (nb rfl)) ?_
          refine AL.go (.off rfl rfl (nb rfl) rfl (by rw [h4]; decide) rfl (nb rfl)) ?_
          refine AL.go (.off rfl rfl (nb rfl) rfl (by rw [h4]; decide) rfl (nb rfl)) ?_
          refine AL.go (.off rfl rfl (nb rfl) rfl (by rw [h4]; decide) rfl (nb rfl)) ?_
          refine AL.go (.off rfl rfl (nb rfl) rfl (by rw [h4]; decide) rfl (nb rfl)) ?_
          refine AL.go (.off rfl rfl (nb rfl) rfl (by rw [h4]; decide) rfl (nb rfl)) ?_
          refine AL.go (OpR.plain rfl (r_pickFb rfl (h4) rfl (nb rfl) (by rintro _ ⟨⟩; rfl))) ?_
          refine AL.go (OpR.plain rfl (r_assign rfl (nb rfl) (by rintro _ ⟨⟩))) ?_
          refine AL.nil ?_
          refine thenN ?_
          refine AW.ret ?_
          refine fin_id (.inr rfl) (ends_of rfl (.tmp rfl .nil)) ?_ .nil rfl rfl rfl rfl
          simp only [retA]
          first | exact A.le_refl _ | (refine A.le_of_eq ?_; simp_all [Ex.op, rows_length]; done) | (exfalso; simp_all [rows_length]; done)
      · have h3n := h3; try simp only [dtt, dff, bqi, bqf, bni, bnf, nt1, nf1, nt0, nf0, ne_eq, ilt, ile, rows_length] at h3n
        refine AL.go (.off rfl rfl (nb rfl) rfl (by rw [h3]; decide) rfl (nb rfl)) ?_
        refine AL.go (.off rfl rfl (nb rfl) rfl (by rw [h3]; decide) rfl (nb rfl)) ?_
        refine AL.go (.off rfl rfl (nb rfl) rfl (by rw [h3]; decide) rfl (nb rfl)) ?_
        refine AL.go (.off rfl rfl (nb rfl) rfl (by rw [h3]; decide) rfl (nb rfl)) ?_
        refine AL.go (.off rfl rfl (nb rfl) rfl (by rw [h3]; decide) rfl (nb rfl)) ?_
        refine AL.go (.off rfl rfl (nb rfl) rfl (by rw [h3]; decide) rfl (nb rfl)) ?_
        refine AL.go (OpR.plain rfl (r_pickFb rfl (h3) rfl (nb rfl) (by rintro _ ⟨⟩; rfl))) ?_
        refine AL.go (OpR.plain rfl (r_move rfl (nb rfl) (by rintro _ ⟨⟩))) ?_
        refine AL.go (.off rfl rfl (nb rfl) rfl (by decide) rfl (nb rfl)) ?_
        refine AL.go (.off rfl rfl (nb rfl) rfl (by decide) rfl (nb rfl)) ?_
        refine AL.go (.off rfl rfl (nb rfl) rfl (by decide) rfl (nb rfl)) ?_
        refine AL.go (.off rfl rfl (nb rfl) rfl (by decide) rfl (nb rfl)) ?_
        refine AL.go (.off rfl rfl (nb rfl) rfl (by decide) rfl (nb rfl)) ?_
        refine AL.go (.off rfl rfl (nb rfl) rfl (by decide) rfl (nb rfl)) ?_
        refine AL.go (OpR.plain rfl (r_pickFb rfl (rfl) rfl (nb rfl) (by rintro _ ⟨⟩; rfl))) ?_
        refine AL.go (OpR.plain rfl (r_assign rfl (nb rfl) (by rintro _ ⟨⟩))) ?_
        refine AL.nil ?_
        refine thenN ?_
        refine AW.ret ?_
        refine fin_id (.inr rfl) (ends_of rfl (.tmp rfl .nil)) ?_ .nil rfl rfl rfl rfl
        simp only [retA]
        first | exact A.le_refl _ | (refine A.le_of_eq ?_; simp_all [Ex.op, rows_length]; done) | (exfalso; simp_all [rows_length]; done)
    · have h2n := h2; try simp only [dtt, dff, bqi, bqf, bni, bnf, nt1, nf1, nt0, nf0, ne_eq, ilt, ile, rows_length] at h2n
      refine AL.go (.off rfl rfl (nb rfl) rfl (by rw [h2]; decide) rfl (nb rfl)) ?_
      refine AL.go (.off rfl rfl (nb rfl) rfl (by rw [h2]; decide) rfl (nb rfl)) ?_
      refine AL.go (.off rfl rfl (nb rfl) rfl (by rw [h2]; decide) rfl (nb rfl)) ?_
      refine AL.go (.off rfl rfl (nb rfl) rfl (by rw [h2]; decide) rfl (nb rfl)) ?_
      refine AL.go (OpR.plain rfl (r_pickFb rfl (h2) rfl (nb rfl) (by rintro _ ⟨⟩; rfl))) ?_
      refine AL.go (OpR.plain rfl (r_move rfl (nb rfl) (by rintro _ ⟨⟩))) ?_
      refine AL.go (.off rfl rfl (nb rfl) rfl (by decide) rfl (nb rfl)) ?_
      refine AL.go (.off rfl rfl (nb rfl) rfl (by decide) rfl (nb rfl)) ?_
      refine AL.go (.off rfl rfl (nb rfl) rfl (by decide) rfl (nb rfl)) ?_
      refine AL.go (.off rfl rfl (nb rfl) rfl (by decide) rfl (nb rfl)) ?_
      refine AL.go (.off rfl rfl (nb rfl) rfl (by decide) rfl (nb rfl)) ?_
      refine AL.go (.off rfl rfl (nb rfl) rfl (by decide) rfl (nb rfl)) ?_
      refine AL.go (OpR.plain rfl (r_pickFb rfl (rfl) rfl (nb rfl) (by rintro _ ⟨⟩; rfl))) ?_
      refine AL.go (OpR.plain rfl (r_move rfl (nb rfl) (by rintro _ ⟨⟩))) ?_
      refine AL.go (.off rfl rfl (nb rfl) rfl (by decide) rfl (nb rfl)) ?_
      refine AL.go (.off rfl rfl (nb rfl) rfl (by decide) rfl (nb rfl)) ?_
      refine AL.go (.off rfl rfl (nb rfl) rfl (by decide) rfl (nb rfl)) ?_
      refine AL.go (.off rfl rfl (nb rfl) rfl (by decide) rfl (nb rfl)) ?_
      refine AL.go (.off rfl rfl (nb rfl) rfl (by decide) rfl (nb rfl)) ?_
      refine AL.go (.off rfl rfl (nb rfl) rfl (by decide) rfl (nb rfl)) ?_
      refine AL.go (OpR.plain rfl (r_pickFb rfl (rfl) rfl (nb rfl) (by rintro _ ⟨⟩; rfl))) ?_
      refine AL.go (OpR.plain rfl (r_assign rfl (nb rfl) (by rintro _ ⟨⟩))) ?_
      refine AL.nil ?_
      refine thenN ?_
      refine AW.ret ?_
      refine fin_id (.inr rfl) (ends_of rfl (.tmp rfl .nil)) ?_ .nil rfl rfl rfl rfl
      simp only [retA]
      first | exact A.le_refl _ | (refine A.le_of_eq ?_; simp_all [Ex.op, rows_length]; done) | (exfalso; simp_all [rows_length]; done)
  · have h1n := h1; try simp only [dtt, dff, bqi, bqf, bni, bnf, nt1, nf1, nt0, nf0, ne_eq, ilt, ile, rows_length] at h1n
    refine AL.go (.off rfl rfl (nb rfl) rfl (by rw [h1]; decide) rfl (nb rfl)) ?_
    refine AL.go (.off rfl rfl (nb rfl) rfl (by rw [h1]; decide) rfl (nb rfl)) ?_
    refine AL.go (.off rfl rfl (nb rfl) rfl (by rw [h1]; decide) rfl (nb rfl)) ?_
    refine AL.go (OpR.plain rfl (r_pickFb rfl (h1) rfl (nb rfl) (by rintro _ ⟨⟩; rfl))) ?_
    refine AL.go (OpR.plain rfl (r_move rfl (nb rfl) (by rintro _ ⟨⟩))) ?_
    refine AL.go (.off rfl rfl (nb rfl) rfl (by decide) rfl (nb rfl)) ?_
    refine AL.go (.off rfl rfl (nb rfl) rfl (by decide) rfl (nb rfl)) ?_
    refine AL.go (.off rfl rfl (nb rfl) rfl (by decide) rfl (nb rfl)) ?_
    refine AL.go (.off rfl rfl (nb rfl) rfl (by decide) rfl (nb rfl)) ?_
    refine AL.go (OpR.plain rfl (r_pickFb rfl (rfl) rfl (nb rfl) (by rintro _ ⟨⟩; rfl))) ?_
    refine AL.go (OpR.plain rfl (r_move rfl (nb rfl) (by rintro _ ⟨⟩))) ?_
    refine AL.go (.off rfl rfl (nb rfl) rfl (by decide) rfl (nb rfl)) ?_
    refine AL.go (.off rfl rfl (nb rfl) rfl (by decide) rfl (nb rfl)) ?_
    refine AL.go (.off rfl rfl (nb rfl) rfl (by decide) rfl (nb rfl)) ?_
    refine AL.go (.off rfl rfl (nb rfl) rfl (by decide) rfl (nb rfl)) ?_
    refine AL.go (.off rfl rfl (nb rfl) rfl (by decide) rfl (nb rfl)) ?_
    refine AL.go (.off rfl rfl (nb rfl) rfl (by decide) rfl (nb rfl)) ?_
    refine AL.go (OpR.plain rfl (r_pickFb rfl (rfl) rfl (nb rfl) (by rintro _ ⟨⟩; rfl))) ?_
    refine AL.go (OpR.plain rfl (r_move rfl (nb rfl) (by rintro _ ⟨⟩))) ?_
    refine AL.go (.off rfl rfl (nb rfl) rfl (by decide) rfl (nb rfl)) ?_
    refine AL.go (.off rfl rfl (nb rfl) rfl (by decide) rfl (nb rfl)) ?_
    refine AL.go (.off rfl rfl (nb rfl) rfl (by decide) rfl (nb rfl)) ?_
    refine AL.go (.off rfl rfl (nb rfl) rfl (by decide) rfl (nb rfl)) ?_
    refine AL.go (.off rfl rfl (nb rfl) rfl (by decide) rfl (nb rfl)) ?_
    refine AL.go (.off rfl rfl (nb rfl) rfl (by decide) rfl (nb rfl)) ?_
    refine AL.go (OpR.plain rfl (r_pickFb rfl (rfl) rfl (nb rfl) (by rintro _ ⟨⟩; rfl))) ?_
    refine AL.go (OpR.plain rfl (r_assign rfl (nb rfl) (by rintro _ ⟨⟩))) ?_
    refine AL.nil ?_
    refine thenN ?_
    refine AW.ret ?_
    refine fin_id (.inr rfl) (ends_of rfl (.tmp rfl .nil)) ?_ .nil rfl rfl rfl rfl
    simp only [retA]
    first | exact A.le_refl _ | (refine A.le_of_eq ?_; simp_all [Ex.op, rows_length]; done) | (exfalso; simp_all [rows_length]; done)

theorem live_s : Am.Fun Try.prog 4 [] (A.bool true) :=
  live_g (exprM 20007 liveT) (expr_s 20007 (by omega) liveT (by decide)) (by kernel_rfl) (by kernel_rfl) ((exprM 20007 liveT).1.l.getD 0 exZero) ((exprM 20007 liveT).1.l.getD 1 exZero) (by kernel_rfl) (by kernel_rfl) (by kernel_rfl)
/-- The law answers true of every text. -/
theorem law_all (s : ByteArray) : Am.Fun Try.prog 3 [A.val (.string s)] (A.bool true) := law_s 20007 (by omega) live_s s
end Go.Par
