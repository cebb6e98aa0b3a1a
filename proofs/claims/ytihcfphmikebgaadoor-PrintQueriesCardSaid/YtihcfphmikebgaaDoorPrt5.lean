import Derived.Test.YtihcfphmikebgaaDoorPrt4
import Derived.Test.YtihcfphmikebgaaDoorAm18
namespace Go.Par
open Go Go.Am Go.Proofs Go.RowKit
set_option linter.unusedVariables false
set_option linter.unusedSimpArgs false

theorem en_71 : enters Tryd.prog 71 = true := by kernel_rfl
theorem en_73 : enters Tryd.prog 73 = true := by kernel_rfl
theorem un_3 : Tryd.prog.underlying 3 = some (TypeDesc.int IntKind.i64) := by kernel_rfl
theorem un_5 : Tryd.prog.underlying 5 = some (TypeDesc.int IntKind.u8) := by kernel_rfl

theorem number_s (s : ByteArray) (i : Nat) (hs : s.size ≤ 10000000000000) (hi : i ≤ s.size) : Am.Spec Tryd.prog 74 [A.val (.string s), A.i64 (i : Int)] [] (resA (numberM s i)) [] := by
  refine spec_ofN (n := 59) Tryd.func74 rfl rfl (nb rfl) ?_
  show AW _ _ (⟨[(0, A.val (.string s)), (1, A.i64 (i : Int))], [], []⟩ : St) _
  refine AW.seq ?_
  refine AW.region ?_
  refine AL.go (OpR.plain rfl (r_alloc 101 ti_71 zc_71 rfl rfl (nb rfl))) ?_
  refine AL.go (OpR.plain rfl (r_assign rfl (nb rfl) (by rintro _ ⟨⟩; rfl))) ?_
  refine AL.go (OpR.plain rfl (r_assign rfl (nb rfl) (by rintro _ ⟨⟩; rfl))) ?_
  refine AL.nil ?_
  refine thenN ?_
  refine AW.seq ?_
  refine AW.region ?_
  refine AL.go (OpR.plain rfl (r_move rfl (nb rfl) (by rintro _ ⟨⟩))) ?_
  refine AL.go (OpR.plain rfl (r_assign rfl (nb rfl) (by rintro _ ⟨⟩; rfl))) ?_
  refine AL.go (OpR.plain rfl (r_assign rfl (nb rfl) (by rintro _ ⟨⟩))) ?_
  refine AL.nil ?_
  refine thenN ?_
  refine AW.seq ?_
  refine AW.block ?_
  refine AW.loop (ι := { x : Nat × Int // NumI s i x.1 x.2 }) (fun x => ⟨[(0, A.val (.string s)), (1, A.i64 (i : Int)), (4, A.c (.ref 101 0)), (7, A.i64 x.1.2), (8, A.i64 (x.1.1 : Int))], [(101, .box [.d (.v (.int .i64 0)), .d (.v (.string { data := #[] })), .d (.v (.int .i64 0)), .d (.v (.int .i64 0))])], []⟩) (fun x => s.size - x.1.1) ⟨(i, 0), ⟨ler _, hi, rfl, rfl, by omega, by omega⟩⟩ (weakens_id (.cons rfl (A.le_of_eq (by first | rfl | (simp [A.ren, C.ren, renOf, lk]; done) | (simp [A.ren, C.ren, renOf, lk]; omega) | omega)) (.cons rfl (A.le_of_eq (by first | rfl | (simp [A.ren, C.ren, renOf, lk]; done) | (simp [A.ren, C.ren, renOf, lk]; omega) | omega)) (.cons rfl (A.le_of_eq (by first | rfl | (simp [A.ren, C.ren, renOf, lk]; done) | (simp [A.ren, C.ren, renOf, lk]; omega) | omega)) (.cons rfl (A.le_of_eq (by first | rfl | (simp [A.ren, C.ren, renOf, lk]; done) | (simp [A.ren, C.ren, renOf, lk]; omega) | omega)) (.cons rfl (A.le_of_eq (by first | rfl | (simp [A.ren, C.ren, renOf, lk]; done) | (simp [A.ren, C.ren, renOf, lk]; omega) | omega)) .nil))))) (.cons rfl (Ob.le_refl _) .nil) rfl rfl rfl rfl) ?_
  rintro ⟨⟨eE, nN⟩, hI⟩
  simp only at hI
  have hIa := hI.a; have hIb := hI.b; have hI0 := hI.n0; have hI1 := hI.n1
  show AW _ _ (⟨[(0, A.val (.string s)), (1, A.i64 (i : Int)), (4, A.c (.ref 101 0)), (7, A.i64 nN), (8, A.i64 (eE : Int))], [(101, .box [.d (.v (.int .i64 0)), .d (.v (.string { data := #[] })), .d (.v (.int .i64 0)), .d (.v (.int .i64 0))])], []⟩ : St) _
  refine AW.seq ?_
  refine AW.seq ?_
  refine AW.region ?_
  refine AL.go (OpR.plain rfl (r_move rfl (nb rfl) (by rintro _ ⟨⟩))) ?_
  refine AL.go (OpR.plain rfl (r_move rfl (nb rfl) (by rintro _ ⟨⟩))) ?_
  refine AL.go (OpR.plain rfl (r_lens un_9 rfl (nb rfl))) ?_
  refine AL.go (OpR.plain rfl (r_bin rfl rfl (nb rfl) rfl (run_int_lss _ _ _))) ?_
  refine AL.go (OpR.plain rfl (r_move rfl (nb rfl) (by rintro _ ⟨⟩))) ?_
  refine AL.ifb (t := 15) rfl (fun h1 => ?_) (fun h1 => ?_)
  · have h1n := h1; try simp only [dtt, dff, bqi, bqf, bni, bnf, nt1, nf1, nt0, nf0, ne_eq, ilt, ile, isDigit_iff, Int.toNat_natCast] at h1n
    refine AL.go (OpR.onb rfl rfl (nb rfl) rfl (h1) (r_move rfl (nb rfl) (by rintro _ ⟨⟩))) ?_
    refine AL.go (OpR.onb rfl rfl (nb rfl) rfl (h1) (r_move rfl (nb rfl) (by rintro _ ⟨⟩))) ?_
    refine AL.go (OpR.onb rfl rfl (nb rfl) rfl (h1) (r_byteD un_9 rfl rfl (nb rfl) (by first | omega | (simp only [Int.toNat_natCast, isDigit_iff] at *; omega)) (by first | omega | (simp only [Int.toNat_natCast, isDigit_iff] at *; omega)))) ?_
    refine AL.go (OpR.onb rfl rfl (nb rfl) rfl (h1) (r_callFun (digit_s _) en_73 rfl rfl rfl rfl (.cons (A.le_refl _) .nil) rfl (nb rfl))) ?_
    refine AL.go (OpR.plain rfl (r_pickTb rfl (h1) rfl (nb rfl) (by rintro _ ⟨⟩))) ?_
    refine AL.nil ?_
    refine thenN ?_
    refine AW.condb rfl (fun h2 => ?_) (fun h2 => ?_)
    · have h2n := h2; try simp only [dtt, dff, bqi, bqf, bni, bnf, nt1, nf1, nt0, nf0, ne_eq, ilt, ile, isDigit_iff, Int.toNat_natCast] at h2n
      refine AW.skip ?_
      refine thenN ?_
      refine AW.block ?_
      refine AW.seq ?_
      refine AW.region ?_
      refine AL.go (OpR.plain rfl (r_move rfl (nb rfl) (by rintro _ ⟨⟩))) ?_
      refine AL.go (OpR.plain rfl (r_move rfl (nb rfl) (by rintro _ ⟨⟩))) ?_
      refine AL.go (OpR.plain rfl (r_byteD un_9 rfl rfl (nb rfl) (by first | omega | (simp only [Int.toNat_natCast, isDigit_iff] at *; omega)) (by first | omega | (simp only [Int.toNat_natCast, isDigit_iff] at *; omega)))) ?_
      refine AL.go (OpR.plain rfl (r_subU8 rfl rfl (nb rfl) (by first | omega | (simp only [Int.toNat_natCast, isDigit_iff] at *; omega)) (by first | omega | (simp only [Int.toNat_natCast, isDigit_iff] at *; omega)))) ?_
      refine AL.go (OpR.plain rfl (r_convI un_5 un_3 rfl (nb rfl) (by first | omega | (simp only [Int.toNat_natCast, isDigit_iff] at *; omega)) (by first | omega | (simp only [Int.toNat_natCast, isDigit_iff] at *; omega)))) ?_
      refine AL.go (OpR.plain rfl (r_assign rfl (nb rfl) (by rintro _ ⟨⟩))) ?_
      refine AL.nil ?_
      refine thenN ?_
      refine AW.seq ?_
      refine AW.seq ?_
      refine AW.region ?_
      refine AL.go (OpR.plain rfl (r_move rfl (nb rfl) (by rintro _ ⟨⟩))) ?_
      refine AL.go (OpR.plain rfl (r_move rfl (nb rfl) (by rintro _ ⟨⟩))) ?_
      refine AL.go (OpR.plain rfl (r_sub rfl rfl (nb rfl) (by first | omega | (simp only [Int.toNat_natCast, isDigit_iff] at *; omega)) (by first | omega | (simp only [Int.toNat_natCast, isDigit_iff] at *; omega)))) ?_
      refine AL.go (OpR.plain rfl (r_quoP rfl rfl (nb rfl) (by first | omega | (simp only [Int.toNat_natCast, isDigit_iff] at *; omega)) (by first | omega | (simp only [Int.toNat_natCast, isDigit_iff] at *; omega)) (by first | omega | (simp only [Int.toNat_natCast, isDigit_iff] at *; omega)))) ?_
      refine AL.go (OpR.plain rfl (r_bin rfl rfl (nb rfl) rfl (run_int_gtr _ _ _))) ?_
      refine AL.nil ?_
      refine thenN ?_
      refine AW.condb rfl (fun h3 => ?_) (fun h3 => ?_)
      · have h3n := h3; try simp only [dtt, dff, bqi, bqf, bni, bnf, nt1, nf1, nt0, nf0, ne_eq, ilt, ile, isDigit_iff, Int.toNat_natCast] at h3n
        refine AW.seq ?_
        refine AW.region ?_
        refine AL.go (OpR.plain rfl (r_build pl_71 rfl zc_71 rfl rfl (by simp only [fillC, putAt, gez, ges, if_true, and_self, Nat.reduceLeDiff, true_and, tks, tkz, tkn, dps, dpz, cap, nap, apn, lnc, lnn, zad, Nat.reduceAdd, adz]; rfl) (nb rfl))) ?_
        refine AL.go (OpR.plain rfl (r_move rfl (nb rfl) (by rintro _ ⟨⟩))) ?_
        refine AL.go (OpR.plain rfl (r_storeN ti_71 rfl rfl rfl rfl rfl (nb rfl) (by simp only [putAt, tks, tkz, tkn, dps, dpz, cap, nap, apn, lnc, lnn, zad, Nat.reduceAdd, adz]; rfl) (by rintro _ ⟨⟩))) ?_
        refine AL.go (OpR.plain rfl (r_assign rfl (nb rfl) (by rintro _ ⟨⟩))) ?_
        refine AL.go (OpR.plain rfl (r_assign rfl (nb rfl) (by rintro _ ⟨⟩; rfl))) ?_
        refine AL.nil ?_
        refine thenN ?_
        refine AW.ret ?_
        refine thenR ?_
        refine inbR ?_
        refine thenR ?_
        refine inbR ?_
        refine thenR ?_
        refine fin_id (.inr rfl) (ends_of rfl (.cell ti_71 rfl rfl (by simp only [loaded, if_true, ler, tks, tkz, tkn, dps, dpz, cap, nap, apn, lnc, lnn, zad, Nat.reduceAdd, adz]; rfl) (.tmp rfl (.tmp rfl .nil)))) ?_ .nil rfl rfl rfl rfl
        simp only [retA]
        first | (rw [hI.over (by omega) (by assumption) (by omega)]; exact A.le_refl _) | (refine A.le_of_eq ?_; rw [hI.stop (by first | (rintro ⟨hh, _⟩; omega) | (simp_all; done))]; split <;> first | (simp_all; done) | (exfalso; rename_i hh; have := hh.1; omega))
      · have h3n := h3; try simp only [dtt, dff, bqi, bqf, bni, bnf, nt1, nf1, nt0, nf0, ne_eq, ilt, ile, isDigit_iff, Int.toNat_natCast] at h3n
        refine AW.skip ?_
        refine thenN ?_
        refine AW.seq ?_
        refine AW.region ?_
        refine AL.go (OpR.plain rfl (r_move rfl (nb rfl) (by rintro _ ⟨⟩))) ?_
        refine AL.go (OpR.plain rfl (r_mul rfl rfl (nb rfl) (by first | omega | (simp only [Int.toNat_natCast, isDigit_iff] at *; omega)) (by first | omega | (simp only [Int.toNat_natCast, isDigit_iff] at *; omega)))) ?_
        refine AL.go (OpR.plain rfl (r_move rfl (nb rfl) (by rintro _ ⟨⟩))) ?_
        refine AL.go (OpR.plain rfl (r_add rfl rfl (nb rfl) (by first | omega | (simp only [Int.toNat_natCast, isDigit_iff] at *; omega)) (by first | omega | (simp only [Int.toNat_natCast, isDigit_iff] at *; omega)))) ?_
        refine AL.go (OpR.plain rfl (r_assign rfl (nb rfl) (by rintro _ ⟨⟩))) ?_
        refine AL.nil ?_
        refine thenN ?_
        refine AW.region ?_
        refine AL.go (OpR.plain rfl (r_move rfl (nb rfl) (by rintro _ ⟨⟩))) ?_
        refine AL.go (OpR.plain rfl (r_add rfl rfl (nb rfl) (by first | omega | (simp only [Int.toNat_natCast, isDigit_iff] at *; omega)) (by first | omega | (simp only [Int.toNat_natCast, isDigit_iff] at *; omega)))) ?_
        refine AL.go (OpR.plain rfl (r_assign rfl (nb rfl) (by rintro _ ⟨⟩))) ?_
        refine AL.nil ?_
        refine inbN ?_
        refine thenN ?_
        refine ⟨⟨(eE + 1, 10 * nN + (((bAt s eE).toNat : Nat) - 48 : Int)), hI.next (by omega) (by assumption) (by omega)⟩, by simp only; omega, weakens_id (.cons rfl (A.le_of_eq (by first | rfl | (simp [A.ren, C.ren, renOf, lk]; done) | (simp [A.ren, C.ren, renOf, lk]; omega) | omega)) (.cons rfl (A.le_of_eq (by first | rfl | (simp [A.ren, C.ren, renOf, lk]; done) | (simp [A.ren, C.ren, renOf, lk]; omega) | omega)) (.cons rfl (A.le_of_eq (by first | rfl | (simp [A.ren, C.ren, renOf, lk]; done) | (simp [A.ren, C.ren, renOf, lk]; omega) | omega)) (.cons rfl (A.le_of_eq (by simp)) (.cons rfl (A.le_of_eq (by first | rfl | (simp [A.ren, C.ren, renOf, lk]; done) | (simp [A.ren, C.ren, renOf, lk]; omega) | omega)) .nil))))) (.cons rfl (Ob.le_refl _) .nil) rfl rfl rfl rfl⟩
    · have h2n := h2; try simp only [dtt, dff, bqi, bqf, bni, bnf, nt1, nf1, nt0, nf0, ne_eq, ilt, ile, isDigit_iff, Int.toNat_natCast] at h2n
      refine AW.exit ?_
      refine thenX ?_
      refine thenX ?_
      refine inbE ?_
      refine thenN ?_
      refine AW.seq ?_
      refine AW.seq ?_
      refine AW.region ?_
      refine AL.go (OpR.plain rfl (r_move rfl (nb rfl) (by rintro _ ⟨⟩))) ?_
      refine AL.go (OpR.plain rfl (r_move rfl (nb rfl) (by rintro _ ⟨⟩))) ?_
      refine AL.go (OpR.plain rfl (r_lens un_9 rfl (nb rfl))) ?_
      refine AL.go (OpR.plain rfl (r_bin rfl rfl (nb rfl) rfl (run_int_lss _ _ _))) ?_
      refine AL.go (OpR.plain rfl (r_move rfl (nb rfl) (by rintro _ ⟨⟩))) ?_
      refine AL.ifb (t := 43) rfl (fun h4 => ?_) (fun h4 => ?_)
      · have h4n := h4; try simp only [dtt, dff, bqi, bqf, bni, bnf, nt1, nf1, nt0, nf0, ne_eq, ilt, ile, isDigit_iff, Int.toNat_natCast] at h4n
        refine AL.go (OpR.onb rfl rfl (nb rfl) rfl (h4) (r_move rfl (nb rfl) (by rintro _ ⟨⟩))) ?_
        refine AL.go (OpR.onb rfl rfl (nb rfl) rfl (h4) (r_move rfl (nb rfl) (by rintro _ ⟨⟩))) ?_
        refine AL.go (OpR.onb rfl rfl (nb rfl) rfl (h4) (r_byteD un_9 rfl rfl (nb rfl) (by first | omega | (simp only [Int.toNat_natCast, isDigit_iff] at *; omega)) (by first | omega | (simp only [Int.toNat_natCast, isDigit_iff] at *; omega)))) ?_
        refine AL.go (OpR.onb rfl rfl (nb rfl) rfl (h4) (r_callFun (letter_s _) en_71 rfl rfl rfl rfl (.cons (A.le_refl _) .nil) rfl (nb rfl))) ?_
        refine AL.go (OpR.plain rfl (r_pickTb rfl (h4) rfl (nb rfl) (by rintro _ ⟨⟩))) ?_
        refine AL.nil ?_
        refine thenN ?_
        refine AW.condb rfl (fun h5 => ?_) (fun h5 => ?_)
        · have h5n := h5; try simp only [dtt, dff, bqi, bqf, bni, bnf, nt1, nf1, nt0, nf0, ne_eq, ilt, ile, isDigit_iff, Int.toNat_natCast] at h5n
          refine AW.seq ?_
          refine AW.region ?_
          refine AL.go (OpR.plain rfl (r_build pl_71 rfl zc_71 rfl rfl (by simp only [fillC, putAt, gez, ges, if_true, and_self, Nat.reduceLeDiff, true_and, tks, tkz, tkn, dps, dpz, cap, nap, apn, lnc, lnn, zad, Nat.reduceAdd, adz]; rfl) (nb rfl))) ?_
          refine AL.go (OpR.plain rfl (r_move rfl (nb rfl) (by rintro _ ⟨⟩))) ?_
          refine AL.go (OpR.plain rfl (r_storeN ti_71 rfl rfl rfl rfl rfl (nb rfl) (by simp only [putAt, tks, tkz, tkn, dps, dpz, cap, nap, apn, lnc, lnn, zad, Nat.reduceAdd, adz]; rfl) (by rintro _ ⟨⟩))) ?_
          refine AL.go (OpR.plain rfl (r_assign rfl (nb rfl) (by rintro _ ⟨⟩))) ?_
          refine AL.go (OpR.plain rfl (r_assign rfl (nb rfl) (by rintro _ ⟨⟩; rfl))) ?_
          refine AL.nil ?_
          refine thenN ?_
          refine AW.ret ?_
          refine thenR ?_
          refine fin_id (.inr rfl) (ends_of rfl (.cell ti_71 rfl rfl (by simp only [loaded, if_true, ler, tks, tkz, tkn, dps, dpz, cap, nap, apn, lnc, lnn, zad, Nat.reduceAdd, adz]; rfl) (.tmp rfl (.tmp rfl .nil)))) ?_ .nil rfl rfl rfl rfl
          simp only [retA]
          first | (rw [hI.over (by omega) (by assumption) (by omega)]; exact A.le_refl _) | (refine A.le_of_eq ?_; rw [hI.stop (by first | (rintro ⟨hh, _⟩; omega) | (simp_all; done))]; split <;> first | (simp_all; done) | (exfalso; rename_i hh; have := hh.1; omega))
        · have h5n := h5; try simp only [dtt, dff, bqi, bqf, bni, bnf, nt1, nf1, nt0, nf0, ne_eq, ilt, ile, isDigit_iff, Int.toNat_natCast] at h5n
          refine AW.skip ?_
          refine thenN ?_
          refine AW.seq ?_
          refine AW.region ?_
          refine AL.go (OpR.plain rfl (r_move rfl (nb rfl) (by rintro _ ⟨⟩))) ?_
          refine AL.go (OpR.plain rfl (r_move rfl (nb rfl) (by rintro _ ⟨⟩))) ?_
          refine AL.go (OpR.plain rfl (r_move rfl (nb rfl) (by rintro _ ⟨⟩))) ?_
          refine AL.go (OpR.plain rfl (r_substr un_9 rfl rfl rfl (nb rfl) (by first | omega | (simp only [Int.toNat_natCast, isDigit_iff] at *; omega)) (by first | omega | (simp only [Int.toNat_natCast, isDigit_iff] at *; omega)) (by first | omega | (simp only [Int.toNat_natCast, isDigit_iff] at *; omega)))) ?_
          refine AL.go (OpR.plain rfl (r_move rfl (nb rfl) (by rintro _ ⟨⟩))) ?_
          refine AL.go (OpR.plain rfl (r_move rfl (nb rfl) (by rintro _ ⟨⟩))) ?_
          refine AL.go (OpR.plain rfl (r_build pl_71 rfl zc_71 rfl rfl (by simp only [fillC, putAt, gez, ges, if_true, and_self, Nat.reduceLeDiff, true_and, tks, tkz, tkn, dps, dpz, cap, nap, apn, lnc, lnn, zad, Nat.reduceAdd, adz]; rfl) (nb rfl))) ?_
          refine AL.go (OpR.plain rfl (r_move rfl (nb rfl) (by rintro _ ⟨⟩))) ?_
          refine AL.go (OpR.plain rfl (r_storeN ti_71 rfl rfl rfl rfl rfl (nb rfl) (by simp only [putAt, tks, tkz, tkn, dps, dpz, cap, nap, apn, lnc, lnn, zad, Nat.reduceAdd, adz]; rfl) (by rintro _ ⟨⟩))) ?_
          refine AL.go (OpR.plain rfl (r_assign rfl (nb rfl) (by rintro _ ⟨⟩))) ?_
          refine AL.go (OpR.plain rfl (r_assign rfl (nb rfl) (by rintro _ ⟨⟩; rfl))) ?_
          refine AL.nil ?_
          refine thenN ?_
          refine AW.ret ?_
          refine fin_id (.inr rfl) (ends_of rfl (.cell ti_71 rfl rfl (by simp only [loaded, if_true, ler, tks, tkz, tkn, dps, dpz, cap, nap, apn, lnc, lnn, zad, Nat.reduceAdd, adz]; rfl) (.tmp rfl (.tmp rfl .nil)))) ?_ .nil rfl rfl rfl rfl
          simp only [retA]
          first | (rw [hI.over (by omega) (by assumption) (by omega)]; exact A.le_refl _) | (refine A.le_of_eq ?_; rw [hI.stop (by first | (rintro ⟨hh, _⟩; omega) | (simp_all; done))]; split <;> first | (simp_all; done) | (exfalso; rename_i hh; have := hh.1; omega))
      · have h4n := h4; try simp only [dtt, dff, bqi, bqf, bni, bnf, nt1, nf1, nt0, nf0, ne_eq, ilt, ile, isDigit_iff, Int.toNat_natCast] at h4n
        refine AL.go (.off rfl rfl (nb rfl) rfl (by rw [h4]; decide) rfl (nb rfl)) ?_
        refine AL.go (.off rfl rfl (nb rfl) rfl (by rw [h4]; decide) rfl (nb rfl)) ?_
        refine AL.go (.off rfl rfl (nb rfl) rfl (by rw [h4]; decide) rfl (nb rfl)) ?_
        refine AL.go (.off rfl rfl (nb rfl) rfl (by rw [h4]; decide) rfl (nb rfl)) ?_
        refine AL.go (OpR.plain rfl (r_pickFb rfl (h4) rfl (nb rfl) (by rintro _ ⟨⟩; rfl))) ?_
        refine AL.nil ?_
        refine thenN ?_
        refine AW.condF rfl (rfl) ?_
        refine AW.skip ?_
        refine thenN ?_
        refine AW.seq ?_
        refine AW.region ?_
        refine AL.go (OpR.plain rfl (r_move rfl (nb rfl) (by rintro _ ⟨⟩))) ?_
        refine AL.go (OpR.plain rfl (r_move rfl (nb rfl) (by rintro _ ⟨⟩))) ?_
        refine AL.go (OpR.plain rfl (r_move rfl (nb rfl) (by rintro _ ⟨⟩))) ?_
        refine AL.go (OpR.plain rfl (r_substr un_9 rfl rfl rfl (nb rfl) (by first | omega | (simp only [Int.toNat_natCast, isDigit_iff] at *; omega)) (by first | omega | (simp only [Int.toNat_natCast, isDigit_iff] at *; omega)) (by first | omega | (simp only [Int.toNat_natCast, isDigit_iff] at *; omega)))) ?_
        refine AL.go (OpR.plain rfl (r_move rfl (nb rfl) (by rintro _ ⟨⟩))) ?_
        refine AL.go (OpR.plain rfl (r_move rfl (nb rfl) (by rintro _ ⟨⟩))) ?_
        refine AL.go (OpR.plain rfl (r_build pl_71 rfl zc_71 rfl rfl (by simp only [fillC, putAt, gez, ges, if_true, and_self, Nat.reduceLeDiff, true_and, tks, tkz, tkn, dps, dpz, cap, nap, apn, lnc, lnn, zad, Nat.reduceAdd, adz]; rfl) (nb rfl))) ?_
        refine AL.go (OpR.plain rfl (r_move rfl (nb rfl) (by rintro _ ⟨⟩))) ?_
        refine AL.go (OpR.plain rfl (r_storeN ti_71 rfl rfl rfl rfl rfl (nb rfl) (by simp only [putAt, tks, tkz, tkn, dps, dpz, cap, nap, apn, lnc, lnn, zad, Nat.reduceAdd, adz]; rfl) (by rintro _ ⟨⟩))) ?_
        refine AL.go (OpR.plain rfl (r_assign rfl (nb rfl) (by rintro _ ⟨⟩))) ?_
        refine AL.go (OpR.plain rfl (r_assign rfl (nb rfl) (by rintro _ ⟨⟩; rfl))) ?_
        refine AL.nil ?_
        refine thenN ?_
        refine AW.ret ?_
        refine fin_id (.inr rfl) (ends_of rfl (.cell ti_71 rfl rfl (by simp only [loaded, if_true, ler, tks, tkz, tkn, dps, dpz, cap, nap, apn, lnc, lnn, zad, Nat.reduceAdd, adz]; rfl) (.tmp rfl (.tmp rfl .nil)))) ?_ .nil rfl rfl rfl rfl
        simp only [retA]
        first | (rw [hI.over (by omega) (by assumption) (by omega)]; exact A.le_refl _) | (refine A.le_of_eq ?_; rw [hI.stop (by first | (rintro ⟨hh, _⟩; omega) | (simp_all; done))]; split <;> first | (simp_all; done) | (exfalso; rename_i hh; have := hh.1; omega))
  · have h1n := h1; try simp only [dtt, dff, bqi, bqf, bni, bnf, nt1, nf1, nt0, nf0, ne_eq, ilt, ile, isDigit_iff, Int.toNat_natCast] at h1n
    refine AL.go (.off rfl rfl (nb rfl) rfl (by rw [h1]; decide) rfl (nb rfl)) ?_
    refine AL.go (.off rfl rfl (nb rfl) rfl (by rw [h1]; decide) rfl (nb rfl)) ?_
    refine AL.go (.off rfl rfl (nb rfl) rfl (by rw [h1]; decide) rfl (nb rfl)) ?_
    refine AL.go (.off rfl rfl (nb rfl) rfl (by rw [h1]; decide) rfl (nb rfl)) ?_
    refine AL.go (OpR.plain rfl (r_pickFb rfl (h1) rfl (nb rfl) (by rintro _ ⟨⟩; rfl))) ?_
    refine AL.nil ?_
    refine thenN ?_
    refine AW.condF rfl (rfl) ?_
    refine AW.exit ?_
    refine thenX ?_
    refine thenX ?_
    refine inbE ?_
    refine thenN ?_
    refine AW.seq ?_
    refine AW.seq ?_
    refine AW.region ?_
    refine AL.go (OpR.plain rfl (r_move rfl (nb rfl) (by rintro _ ⟨⟩))) ?_
    refine AL.go (OpR.plain rfl (r_move rfl (nb rfl) (by rintro _ ⟨⟩))) ?_
    refine AL.go (OpR.plain rfl (r_lens un_9 rfl (nb rfl))) ?_
    refine AL.go (OpR.plain rfl (r_bin rfl rfl (nb rfl) rfl (run_int_lss _ _ _))) ?_
    refine AL.go (OpR.plain rfl (r_move rfl (nb rfl) (by rintro _ ⟨⟩))) ?_
    refine AL.ifb (t := 43) rfl (fun h6 => ?_) (fun h6 => ?_)
    · have h6n := h6; try simp only [dtt, dff, bqi, bqf, bni, bnf, nt1, nf1, nt0, nf0, ne_eq, ilt, ile, isDigit_iff, Int.toNat_natCast] at h6n
      refine AL.go (OpR.onb rfl rfl (nb rfl) rfl (h6) (r_move rfl (nb rfl) (by rintro _ ⟨⟩))) ?_
      refine AL.go (OpR.onb rfl rfl (nb rfl) rfl (h6) (r_move rfl (nb rfl) (by rintro _ ⟨⟩))) ?_
      refine AL.go (OpR.onb rfl rfl (nb rfl) rfl (h6) (r_byteD un_9 rfl rfl (nb rfl) (by first | omega | (simp only [Int.toNat_natCast, isDigit_iff] at *; omega)) (by first | omega | (simp only [Int.toNat_natCast, isDigit_iff] at *; omega)))) ?_
      refine AL.go (OpR.onb rfl rfl (nb rfl) rfl (h6) (r_callFun (letter_s _) en_71 rfl rfl rfl rfl (.cons (A.le_refl _) .nil) rfl (nb rfl))) ?_
      refine AL.go (OpR.plain rfl (r_pickTb rfl (h6) rfl (nb rfl) (by rintro _ ⟨⟩))) ?_
      refine AL.nil ?_
      refine thenN ?_
      refine AW.condb rfl (fun h7 => ?_) (fun h7 => ?_)
      · have h7n := h7; try simp only [dtt, dff, bqi, bqf, bni, bnf, nt1, nf1, nt0, nf0, ne_eq, ilt, ile, isDigit_iff, Int.toNat_natCast] at h7n
        refine AW.seq ?_
        refine AW.region ?_
        refine AL.go (OpR.plain rfl (r_build pl_71 rfl zc_71 rfl rfl (by simp only [fillC, putAt, gez, ges, if_true, and_self, Nat.reduceLeDiff, true_and, tks, tkz, tkn, dps, dpz, cap, nap, apn, lnc, lnn, zad, Nat.reduceAdd, adz]; rfl) (nb rfl))) ?_
        refine AL.go (OpR.plain rfl (r_move rfl (nb rfl) (by rintro _ ⟨⟩))) ?_
        refine AL.go (OpR.plain rfl (r_storeN ti_71 rfl rfl rfl rfl rfl (nb rfl) (by simp only [putAt, tks, tkz, tkn, dps, dpz, cap, nap, apn, lnc, lnn, zad, Nat.reduceAdd, adz]; rfl) (by rintro _ ⟨⟩))) ?_
        refine AL.go (OpR.plain rfl (r_assign rfl (nb rfl) (by rintro _ ⟨⟩))) ?_
        refine AL.go (OpR.plain rfl (r_assign rfl (nb rfl) (by rintro _ ⟨⟩; rfl))) ?_
        refine AL.nil ?_
        refine thenN ?_
        refine AW.ret ?_
        refine thenR ?_
        refine fin_id (.inr rfl) (ends_of rfl (.cell ti_71 rfl rfl (by simp only [loaded, if_true, ler, tks, tkz, tkn, dps, dpz, cap, nap, apn, lnc, lnn, zad, Nat.reduceAdd, adz]; rfl) (.tmp rfl (.tmp rfl .nil)))) ?_ .nil rfl rfl rfl rfl
        simp only [retA]
        first | (rw [hI.over (by omega) (by assumption) (by omega)]; exact A.le_refl _) | (refine A.le_of_eq ?_; rw [hI.stop (by first | (rintro ⟨hh, _⟩; omega) | (simp_all; done))]; split <;> first | (simp_all; done) | (exfalso; rename_i hh; have := hh.1; omega))
      · have h7n := h7; try simp only [dtt, dff, bqi, bqf, bni, bnf, nt1, nf1, nt0, nf0, ne_eq, ilt, ile, isDigit_iff, Int.toNat_natCast] at h7n
        refine AW.skip ?_
        refine thenN ?_
        refine AW.seq ?_
        refine AW.region ?_
        refine AL.go (OpR.plain rfl (r_move rfl (nb rfl) (by rintro _ ⟨⟩))) ?_
        refine AL.go (OpR.plain rfl (r_move rfl (nb rfl) (by rintro _ ⟨⟩))) ?_
        refine AL.go (OpR.plain rfl (r_move rfl (nb rfl) (by rintro _ ⟨⟩))) ?_
        refine AL.go (OpR.plain rfl (r_substr un_9 rfl rfl rfl (nb rfl) (by first | omega | (simp only [Int.toNat_natCast, isDigit_iff] at *; omega)) (by first | omega | (simp only [Int.toNat_natCast, isDigit_iff] at *; omega)) (by first | omega | (simp only [Int.toNat_natCast, isDigit_iff] at *; omega)))) ?_
        refine AL.go (OpR.plain rfl (r_move rfl (nb rfl) (by rintro _ ⟨⟩))) ?_
        refine AL.go (OpR.plain rfl (r_move rfl (nb rfl) (by rintro _ ⟨⟩))) ?_
        refine AL.go (OpR.plain rfl (r_build pl_71 rfl zc_71 rfl rfl (by simp only [fillC, putAt, gez, ges, if_true, and_self, Nat.reduceLeDiff, true_and, tks, tkz, tkn, dps, dpz, cap, nap, apn, lnc, lnn, zad, Nat.reduceAdd, adz]; rfl) (nb rfl))) ?_
        refine AL.go (OpR.plain rfl (r_move rfl (nb rfl) (by rintro _ ⟨⟩))) ?_
        refine AL.go (OpR.plain rfl (r_storeN ti_71 rfl rfl rfl rfl rfl (nb rfl) (by simp only [putAt, tks, tkz, tkn, dps, dpz, cap, nap, apn, lnc, lnn, zad, Nat.reduceAdd, adz]; rfl) (by rintro _ ⟨⟩))) ?_
        refine AL.go (OpR.plain rfl (r_assign rfl (nb rfl) (by rintro _ ⟨⟩))) ?_
        refine AL.go (OpR.plain rfl (r_assign rfl (nb rfl) (by rintro _ ⟨⟩; rfl))) ?_
        refine AL.nil ?_
        refine thenN ?_
        refine AW.ret ?_
        refine fin_id (.inr rfl) (ends_of rfl (.cell ti_71 rfl rfl (by simp only [loaded, if_true, ler, tks, tkz, tkn, dps, dpz, cap, nap, apn, lnc, lnn, zad, Nat.reduceAdd, adz]; rfl) (.tmp rfl (.tmp rfl .nil)))) ?_ .nil rfl rfl rfl rfl
        simp only [retA]
        first | (rw [hI.over (by omega) (by assumption) (by omega)]; exact A.le_refl _) | (refine A.le_of_eq ?_; rw [hI.stop (by first | (rintro ⟨hh, _⟩; omega) | (simp_all; done))]; split <;> first | (simp_all; done) | (exfalso; rename_i hh; have := hh.1; omega))
    · have h6n := h6; try simp only [dtt, dff, bqi, bqf, bni, bnf, nt1, nf1, nt0, nf0, ne_eq, ilt, ile, isDigit_iff, Int.toNat_natCast] at h6n
      refine AL.go (.off rfl rfl (nb rfl) rfl (by rw [h6]; decide) rfl (nb rfl)) ?_
      refine AL.go (.off rfl rfl (nb rfl) rfl (by rw [h6]; decide) rfl (nb rfl)) ?_
      refine AL.go (.off rfl rfl (nb rfl) rfl (by rw [h6]; decide) rfl (nb rfl)) ?_
      refine AL.go (.off rfl rfl (nb rfl) rfl (by rw [h6]; decide) rfl (nb rfl)) ?_
      refine AL.go (OpR.plain rfl (r_pickFb rfl (h6) rfl (nb rfl) (by rintro _ ⟨⟩; rfl))) ?_
      refine AL.nil ?_
      refine thenN ?_
      refine AW.condF rfl (rfl) ?_
      refine AW.skip ?_
      refine thenN ?_
      refine AW.seq ?_
      refine AW.region ?_
      refine AL.go (OpR.plain rfl (r_move rfl (nb rfl) (by rintro _ ⟨⟩))) ?_
      refine AL.go (OpR.plain rfl (r_move rfl (nb rfl) (by rintro _ ⟨⟩))) ?_
      refine AL.go (OpR.plain rfl (r_move rfl (nb rfl) (by rintro _ ⟨⟩))) ?_
      refine AL.go (OpR.plain rfl (r_substr un_9 rfl rfl rfl (nb rfl) (by first | omega | (simp only [Int.toNat_natCast, isDigit_iff] at *; omega)) (by first | omega | (simp only [Int.toNat_natCast, isDigit_iff] at *; omega)) (by first | omega | (simp only [Int.toNat_natCast, isDigit_iff] at *; omega)))) ?_
      refine AL.go (OpR.plain rfl (r_move rfl (nb rfl) (by rintro _ ⟨⟩))) ?_
      refine AL.go (OpR.plain rfl (r_move rfl (nb rfl) (by rintro _ ⟨⟩))) ?_
      refine AL.go (OpR.plain rfl (r_build pl_71 rfl zc_71 rfl rfl (by simp only [fillC, putAt, gez, ges, if_true, and_self, Nat.reduceLeDiff, true_and, tks, tkz, tkn, dps, dpz, cap, nap, apn, lnc, lnn, zad, Nat.reduceAdd, adz]; rfl) (nb rfl))) ?_
      refine AL.go (OpR.plain rfl (r_move rfl (nb rfl) (by rintro _ ⟨⟩))) ?_
      refine AL.go (OpR.plain rfl (r_storeN ti_71 rfl rfl rfl rfl rfl (nb rfl) (by simp only [putAt, tks, tkz, tkn, dps, dpz, cap, nap, apn, lnc, lnn, zad, Nat.reduceAdd, adz]; rfl) (by rintro _ ⟨⟩))) ?_
      refine AL.go (OpR.plain rfl (r_assign rfl (nb rfl) (by rintro _ ⟨⟩))) ?_
      refine AL.go (OpR.plain rfl (r_assign rfl (nb rfl) (by rintro _ ⟨⟩; rfl))) ?_
      refine AL.nil ?_
      refine thenN ?_
      refine AW.ret ?_
      refine fin_id (.inr rfl) (ends_of rfl (.cell ti_71 rfl rfl (by simp only [loaded, if_true, ler, tks, tkz, tkn, dps, dpz, cap, nap, apn, lnc, lnn, zad, Nat.reduceAdd, adz]; rfl) (.tmp rfl (.tmp rfl .nil)))) ?_ .nil rfl rfl rfl rfl
      simp only [retA]
      first | (rw [hI.over (by omega) (by assumption) (by omega)]; exact A.le_refl _) | (refine A.le_of_eq ?_; rw [hI.stop (by first | (rintro ⟨hh, _⟩; omega) | (simp_all; done))]; split <;> first | (simp_all; done) | (exfalso; rename_i hh; have := hh.1; omega))


end Go.Par
