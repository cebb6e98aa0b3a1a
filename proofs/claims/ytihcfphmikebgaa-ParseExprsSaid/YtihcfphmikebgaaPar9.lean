import Derived.Test.YtihcfphmikebgaaPar8
namespace Go.Par
open Go Go.Am Go.Proofs Go.RowKit
set_option linter.unusedVariables false
set_option linter.unusedSimpArgs false

structure ScI (p : Int → Bool) (s : ByteArray) (a i : Nat) : Prop where
  lo : a ≤ i
  hi : i ≤ s.size
  k : runOf p s a = runOf p s i
theorem ScI.next {p : Int → Bool} {s : ByteArray} {a i : Nat} (h : ScI p s a i) (hlt : (i : Int) < s.size) (hp : p (bAt s i).toNat = true) : ScI p s a (i + 1) := by
  have := h.lo
  exact ⟨by omega, by omega, by rw [h.k, runOf_go (by omega) hp]⟩
theorem ScI.stop {p : Int → Bool} {s : ByteArray} {a i : Nat} (h : ScI p s a i) (hno : (s.size : Int) ≤ i ∨ p (bAt s i).toNat = false) : runOf p s a = i := by
  rw [h.k]
  apply runOf_stop
  rintro ⟨h1, h2⟩
  rcases hno with h3 | h3
  · omega
  · rw [h3] at h2; cases h2
def errFix (a : Nat) (r : Tok × Nat × Int) : Tok × Nat × Int := if r.2.2 ≠ 0 then (Tok.zero, a, r.2.2) else r
def oneM (s : ByteArray) (a : Nat) : Tok × Nat × Int :=
  if runOf isBlank s a = s.size then (⟨0, ⟨#[]⟩, 0, runOf isBlank s a⟩, runOf isBlank s a, 0)
  else if isLetter (bAt s (runOf isBlank s a)).toNat = true then errFix a (nameM s (runOf isBlank s a))
  else if isDigit (bAt s (runOf isBlank s a)).toNat = true then errFix a (numberM s (runOf isBlank s a))
  else if ((bAt s (runOf isBlank s a)).toNat : Int) = 39 then errFix a (textM s (runOf isBlank s a) (runOf isBlank s a))
  else if signM s (runOf isBlank s a) = ⟨#[]⟩ then (Tok.zero, a, 1) else (⟨5, signM s (runOf isBlank s a), 0, runOf isBlank s a⟩, runOf isBlank s a + (signM s (runOf isBlank s a)).size, 0)
theorem signM_size (s : ByteArray) (i : Nat) : (signM s i).size ≤ 2 := by
  unfold signM
  cases h : signL.find? (matchAt s i) with
  | none => exact Nat.zero_le _
  | some w =>
    have := List.mem_of_find?_eq_some h
    obtain ⟨j, hj⟩ := List.mem_iff_getElem?.1 this
    have h2 := sign_len j
    rw [List.getD_eq_getElem?_getD, hj] at h2
    exact h2
theorem scan_all {p : Int → Bool} {s : ByteArray} : ∀ (n i j : Nat), i ≤ j → j < scan p s n i → p (bAt s j).toNat = true
  | 0, i, j, h1, h2 => by rw [scan] at h2; omega
  | n + 1, i, j, h1, h2 => by
    rw [scan] at h2
    split at h2
    · rename_i h
      rcases Nat.lt_or_ge i j with c | c
      · exact scan_all n (i + 1) j (by omega) h2
      · have : i = j := by omega
        subst this; exact h.2
    · omega
theorem runOf_all {p : Int → Bool} {s : ByteArray} {i j : Nat} (h1 : i ≤ j) (h2 : j < runOf p s i) : p (bAt s j).toNat = true := scan_all _ _ _ h1 h2
theorem num_sub {s : ByteArray} {i k : Nat} (hk : k ≤ s.size) : numAt (s.extract i k) (s.extract i k).size 0 0 = numAt s (k - i) i 0 := by
  rw [ByteArray.size_extract, Nat.min_eq_left hk, numAt_extract hk _ _ _ (by omega)]
  rfl
theorem dig_sub {s : ByteArray} {i k : Nat} (hk : k ≤ s.size) (hD : runOf isDigit s i = k) : ∀ j, j < (s.extract i k).size → isDigit (bAt (s.extract i k) j).toNat = true := by
  intro j hj
  rw [ByteArray.size_extract, Nat.min_eq_left hk] at hj
  rw [bAt_extract hk hj]
  exact runOf_all (i := i) (by omega) (by omega)
theorem textM_fix (s : ByteArray) (a i : Nat) : errFix a (textM s i i) = textM s a i := by
  unfold textM errFix
  cases txt s s.size (i + 1) ⟨#[]⟩ with
  | none => rfl
  | some q =>
    obtain ⟨acc, k⟩ := q
    by_cases h : acc.size > 65536
    · simp [h]
    · simp [h]
theorem nameM_fix {s : ByteArray} {i k : Nat} (hN : runOf nmc s i = k) (hik : i ≤ k) (a : Nat) : errFix a (nameM s i) = if (k : Int) - i > 32 then (Tok.zero, a, 1) else (⟨if isWord (s.extract i k) then 2 else 1, s.extract i k, 0, i⟩, k, 0) := by
  unfold errFix nameM
  rw [hN]
  by_cases h : k - i > 32
  · have e : (k : Int) - i > 32 := by omega
    simp only [if_pos h, if_pos e]; rfl
  · have e : ¬ (k : Int) - i > 32 := by omega
    simp only [if_neg h, if_neg e]; rfl
theorem numberM_fix {s : ByteArray} {i k : Nat} (hD : runOf isDigit s i = k) (a : Nat) : errFix a (numberM s i) = match numAt s (k - i) i 0 with
    | none => (Tok.zero, a, 1)
    | some n => if (k : Int) < s.size ∧ isLetter (bAt s k).toNat = true then (Tok.zero, a, 1) else (⟨3, s.extract i k, n, i⟩, k, 0) := by
  unfold errFix numberM
  rw [hD]
  cases numAt s (k - i) i 0 with
  | none => rfl
  | some n =>
    by_cases h : k < s.size ∧ isLetter (bAt s k).toNat = true
    · have e : (k : Int) < s.size ∧ isLetter (bAt s k).toNat = true := ⟨by omega, h.2⟩
      simp only [if_pos h, if_pos e]; rfl
    · have e : ¬ ((k : Int) < s.size ∧ isLetter (bAt s k).toNat = true) := fun hh => h ⟨by omega, hh.2⟩
      simp only [if_neg h, if_neg e]; rfl

theorem en_36 : enters Try.prog 36 = true := by kernel_rfl
theorem en_37 : enters Try.prog 37 = true := by kernel_rfl
theorem en_39 : enters Try.prog 39 = true := by kernel_rfl
theorem en_41 : enters Try.prog 41 = true := by kernel_rfl
theorem en_42 : enters Try.prog 42 = true := by kernel_rfl
theorem en_49 : enters Try.prog 49 = true := by kernel_rfl
theorem en_50 : enters Try.prog 50 = true := by kernel_rfl
theorem en_51 : enters Try.prog 51 = true := by kernel_rfl
theorem en_52 : enters Try.prog 52 = true := by kernel_rfl
theorem en_53 : enters Try.prog 53 = true := by kernel_rfl
theorem en_54 : enters Try.prog 54 = true := by kernel_rfl
theorem en_55 : enters Try.prog 55 = true := by kernel_rfl

set_option maxHeartbeats 1000000 in
theorem one_s (s : ByteArray) (a : Nat) (hs : s.size ≤ 100000) (ha : a ≤ s.size) : Am.Spec Try.prog 29 [A.val (.string s), A.i64 (a : Int)] [] (resA (oneM s a)) [] := by
  refine spec_ofN (n := 92) Try.func29 rfl rfl (nb rfl) ?_
  show AW _ _ (⟨[(0, A.val (.string s)), (1, A.i64 (a : Int))], [], []⟩ : St) _
  refine AW.seq ?_
  refine AW.region ?_
  refine AL.go (OpR.plain rfl (r_alloc 101 ti_53 zc_53 rfl rfl (nb rfl))) ?_
  refine AL.go (OpR.plain rfl (r_assign rfl (nb rfl) (by rintro _ ⟨⟩; rfl))) ?_
  refine AL.go (OpR.plain rfl (r_assign rfl (nb rfl) (by rintro _ ⟨⟩; rfl))) ?_
  refine AL.nil ?_
  refine thenN ?_
  refine AW.seq ?_
  refine AW.region ?_
  refine AL.go (OpR.plain rfl (r_move rfl (nb rfl) (by rintro _ ⟨⟩))) ?_
  refine AL.go (OpR.plain rfl (r_max rfl rfl (nb rfl))) ?_
  refine AL.go (OpR.plain rfl (r_move rfl (nb rfl) (by rintro _ ⟨⟩))) ?_
  refine AL.go (OpR.plain rfl (r_lens un_9 rfl (nb rfl))) ?_
  refine AL.go (OpR.plain rfl (r_min rfl rfl (nb rfl))) ?_
  refine AL.go (OpR.plain rfl (r_assign rfl (nb rfl) (by rintro _ ⟨⟩))) ?_
  refine AL.nil ?_
  refine thenN ?_
  refine AW.seq ?_
  refine AW.region ?_
  refine AL.go (OpR.plain rfl (r_move rfl (nb rfl) (by rintro _ ⟨⟩))) ?_
  refine AL.go (OpR.plain rfl (r_assign rfl (nb rfl) (by rintro _ ⟨⟩))) ?_
  refine AL.nil ?_
  refine thenN ?_
  refine AW.seq ?_
  refine AW.block ?_
  refine AW.loop (ι := { x : Nat // ScI isBlank s a x }) (fun x => ⟨[(0, A.val (.string s)), (4, A.c (.ref 101 0)), (5, A.i64 0), (6, A.i64 0), (7, A.i64 (a : Int)), (8, A.i64 (x.1 : Int))], [(101, .box [.d (.v (.int .i64 0)), .d (.v (.string { data := #[] })), .d (.v (.int .i64 0)), .d (.v (.int .i64 0))])], []⟩) (fun x => s.size - x.1) ⟨a, ⟨ler _, ha, rfl⟩⟩ (weakens_id (.cons rfl (A.le_of_eq (by first | rfl | (simp [A.ren, C.ren, renOf, lk]; done) | (simp [A.ren, C.ren, renOf, lk]; omega) | omega)) (.cons rfl (A.le_of_eq (by first | rfl | (simp [A.ren, C.ren, renOf, lk]; done) | (simp [A.ren, C.ren, renOf, lk]; omega) | omega)) (.cons rfl (A.le_of_eq (by first | rfl | (simp [A.ren, C.ren, renOf, lk]; done) | (simp [A.ren, C.ren, renOf, lk]; omega) | omega)) (.cons rfl (A.le_of_eq (by first | rfl | (simp [A.ren, C.ren, renOf, lk]; done) | (simp [A.ren, C.ren, renOf, lk]; omega) | omega)) (.cons rfl (A.le_of_eq (by rw [show (min (max (a : Int) 0) (s.size : Int)) = (a : Int) by omega])) (.cons rfl (A.le_of_eq (by rw [show (min (max (a : Int) 0) (s.size : Int)) = (a : Int) by omega])) .nil)))))) (.cons rfl (Ob.le_refl _) .nil) rfl rfl rfl rfl) ?_
  rintro ⟨iI, hI⟩
  have hIa := hI.lo; have hIb := hI.hi
  show AW _ _ (⟨[(0, A.val (.string s)), (4, A.c (.ref 101 0)), (5, A.i64 0), (6, A.i64 0), (7, A.i64 (a : Int)), (8, A.i64 (iI : Int))], [(101, .box [.d (.v (.int .i64 0)), .d (.v (.string { data := #[] })), .d (.v (.int .i64 0)), .d (.v (.int .i64 0))])], []⟩ : St) _
  refine AW.seq ?_
  refine AW.seq ?_
  refine AW.region ?_
  refine AL.go (OpR.plain rfl (r_move rfl (nb rfl) (by rintro _ ⟨⟩))) ?_
  refine AL.go (OpR.plain rfl (r_move rfl (nb rfl) (by rintro _ ⟨⟩))) ?_
  refine AL.go (OpR.plain rfl (r_lens un_9 rfl (nb rfl))) ?_
  refine AL.go (OpR.plain rfl (r_bin rfl rfl (nb rfl) rfl (run_int_lss _ _ _))) ?_
  refine AL.go (OpR.plain rfl (r_move rfl (nb rfl) (by rintro _ ⟨⟩))) ?_
  refine AL.ifb (t := 20) rfl (fun h1 => ?_) (fun h1 => ?_)
  · have h1n := h1; try simp only [dtt, dff, bqi, bqf, bni, bnf, nt1, nf1, nt0, nf0, ne_eq, ilt, ile, Int.toNat_natCast] at h1n
    refine AL.go (OpR.onb rfl rfl (nb rfl) rfl (h1) (r_move rfl (nb rfl) (by rintro _ ⟨⟩))) ?_
    refine AL.go (OpR.onb rfl rfl (nb rfl) rfl (h1) (r_move rfl (nb rfl) (by rintro _ ⟨⟩))) ?_
    refine AL.go (OpR.onb rfl rfl (nb rfl) rfl (h1) (r_byteD un_9 rfl rfl (nb rfl) (by first | omega | (simp only [Int.toNat_natCast] at *; omega)) (by first | omega | (simp only [Int.toNat_natCast] at *; omega)))) ?_
    refine AL.go (OpR.onb rfl rfl (nb rfl) rfl (h1) (r_callFun (blank_s _) en_36 rfl rfl rfl rfl (.cons (A.le_refl _) .nil) rfl (nb rfl))) ?_
    refine AL.go (OpR.plain rfl (r_pickTb rfl (h1) rfl (nb rfl) (by rintro _ ⟨⟩))) ?_
    refine AL.nil ?_
    refine thenN ?_
    refine AW.condb rfl (fun h2 => ?_) (fun h2 => ?_)
    · have h2n := h2; try simp only [dtt, dff, bqi, bqf, bni, bnf, nt1, nf1, nt0, nf0, ne_eq, ilt, ile, Int.toNat_natCast] at h2n
      refine AW.skip ?_
      refine thenN ?_
      refine AW.block ?_
      refine AW.region ?_
      refine AL.go (OpR.plain rfl (r_move rfl (nb rfl) (by rintro _ ⟨⟩))) ?_
      refine AL.go (OpR.plain rfl (r_add rfl rfl (nb rfl) (by first | omega | (simp only [Int.toNat_natCast] at *; omega)) (by first | omega | (simp only [Int.toNat_natCast] at *; omega)))) ?_
      refine AL.go (OpR.plain rfl (r_assign rfl (nb rfl) (by rintro _ ⟨⟩))) ?_
      refine AL.nil ?_
      refine inbN ?_
      refine thenN ?_
      refine ⟨⟨iI + 1, hI.next (by omega) (by assumption)⟩, by simp only; omega, weakens_id (.cons rfl (A.le_of_eq (by first | rfl | (simp [A.ren, C.ren, renOf, lk]; done) | (simp [A.ren, C.ren, renOf, lk]; omega) | omega)) (.cons rfl (A.le_of_eq (by first | rfl | (simp [A.ren, C.ren, renOf, lk]; done) | (simp [A.ren, C.ren, renOf, lk]; omega) | omega)) (.cons rfl (A.le_of_eq (by first | rfl | (simp [A.ren, C.ren, renOf, lk]; done) | (simp [A.ren, C.ren, renOf, lk]; omega) | omega)) (.cons rfl (A.le_of_eq (by first | rfl | (simp [A.ren, C.ren, renOf, lk]; done) | (simp [A.ren, C.ren, renOf, lk]; omega) | omega)) (.cons rfl (A.le_of_eq (by first | rfl | (simp [A.ren, C.ren, renOf, lk]; done) | (simp [A.ren, C.ren, renOf, lk]; omega) | omega)) (.cons rfl (A.le_of_eq (by first | rfl | (simp [A.ren, C.ren, renOf, lk]; done) | (simp [A.ren, C.ren, renOf, lk]; omega) | omega)) .nil)))))) (.cons rfl (Ob.le_refl _) .nil) rfl rfl rfl rfl⟩
    · have h2n := h2; try simp only [dtt, dff, bqi, bqf, bni, bnf, nt1, nf1, nt0, nf0, ne_eq, ilt, ile, Int.toNat_natCast] at h2n
      refine AW.exit ?_
      refine thenX ?_
      refine thenX ?_
      refine inbE ?_
      refine thenN ?_
      refine AW.seq ?_
      refine AW.region ?_
      have hB : runOf isBlank s a = iI := hI.stop (by first | (left; omega) | (right; assumption))
      have hsz := signM_size s iI
      refine AL.go (OpR.plain rfl (r_move rfl (nb rfl) (by rintro _ ⟨⟩))) ?_
      refine AL.go (OpR.plain rfl (r_move rfl (nb rfl) (by rintro _ ⟨⟩))) ?_
      refine AL.go (OpR.plain rfl (r_callFun (psign_s s _ hs (by omega)) en_37 rfl rfl rfl rfl (.cons (A.le_refl _) (.cons (A.le_refl _) .nil)) rfl (nb rfl))) ?_
      refine AL.go (OpR.plain rfl (r_assign rfl (nb rfl) (by rintro _ ⟨⟩))) ?_
      refine AL.nil ?_
      refine thenN ?_
      refine AW.seq ?_
      refine AW.block ?_
      refine AW.seq ?_
      refine AW.region ?_
      refine AL.go (OpR.plain rfl (r_move rfl (nb rfl) (by rintro _ ⟨⟩))) ?_
      refine AL.go (OpR.plain rfl (r_move rfl (nb rfl) (by rintro _ ⟨⟩))) ?_
      refine AL.go (OpR.plain rfl (r_lens un_9 rfl (nb rfl))) ?_
      refine AL.go (OpR.plain rfl (r_bin rfl rfl (nb rfl) rfl (run_int_eql _ _ _))) ?_
      refine AL.go (OpR.plain rfl (r_assign rfl (nb rfl) (by rintro _ ⟨⟩))) ?_
      refine AL.nil ?_
      refine thenN ?_
      refine AW.condb rfl (fun h3 => ?_) (fun h3 => ?_)
      · have h3n := h3; try simp only [dtt, dff, bqi, bqf, bni, bnf, nt1, nf1, nt0, nf0, ne_eq, ilt, ile, Int.toNat_natCast] at h3n
        refine AW.seq ?_
        refine AW.region ?_
        refine AL.go (OpR.plain rfl (r_move rfl (nb rfl) (by rintro _ ⟨⟩))) ?_
        refine AL.go (OpR.plain rfl (r_build pl_53 rfl zc_53 rfl rfl (by simp only [fillC, putAt, gez, ges, if_true, and_self, Nat.reduceLeDiff, true_and, tks, tkz, tkn, dps, dpz, cap, nap, apn, lnc, lnn, zad, Nat.reduceAdd, adz]; rfl) (nb rfl))) ?_
        refine AL.go (OpR.plain rfl (r_move rfl (nb rfl) (by rintro _ ⟨⟩))) ?_
        refine AL.go (OpR.plain rfl (r_storeN ti_53 rfl rfl rfl rfl rfl (nb rfl) (by simp only [putAt, tks, tkz, tkn, dps, dpz, cap, nap, apn, lnc, lnn, zad, Nat.reduceAdd, adz]; rfl) (by rintro _ ⟨⟩))) ?_
        refine AL.go (OpR.plain rfl (r_assign rfl (nb rfl) (by rintro _ ⟨⟩))) ?_
        refine AL.go (OpR.plain rfl (r_assign rfl (nb rfl) (by rintro _ ⟨⟩; rfl))) ?_
        refine AL.nil ?_
        refine thenN ?_
        refine AW.ret ?_
        refine inbR ?_
        refine thenR ?_
        refine fin_id (.inr rfl) (ends_of rfl (.cell ti_53 rfl rfl (by simp only [loaded, if_true, ler, tks, tkz, tkn, dps, dpz, cap, nap, apn, lnc, lnn, zad, Nat.reduceAdd, adz]; rfl) (.tmp rfl (.tmp rfl .nil)))) ?_ .nil rfl rfl rfl rfl
        simp only [retA]
        first | (exfalso; omega) | (refine A.le_of_eq ?_; simp only [oneM, hB]; by_cases he : iI = s.size <;> first | (exfalso; omega) | (simp_all [errFix]; done) | (simp_all [errFix]; omega))
      · have h3n := h3; try simp only [dtt, dff, bqi, bqf, bni, bnf, nt1, nf1, nt0, nf0, ne_eq, ilt, ile, Int.toNat_natCast] at h3n
        refine AW.seq ?_
        refine AW.region ?_
        refine AL.go (OpR.plain rfl (r_move rfl (nb rfl) (by rintro _ ⟨⟩))) ?_
        refine AL.go (OpR.plain rfl (r_move rfl (nb rfl) (by rintro _ ⟨⟩))) ?_
        refine AL.go (OpR.plain rfl (r_byteD un_9 rfl rfl (nb rfl) (by first | omega | (simp only [Int.toNat_natCast] at *; omega)) (by first | omega | (simp only [Int.toNat_natCast] at *; omega)))) ?_
        refine AL.go (OpR.plain rfl (r_callFun (letter_s _) en_38 rfl rfl rfl rfl (.cons (A.le_refl _) .nil) rfl (nb rfl))) ?_
        refine AL.go (OpR.plain rfl (r_assign rfl (nb rfl) (by rintro _ ⟨⟩))) ?_
        refine AL.nil ?_
        refine thenN ?_
        refine AW.condb rfl (fun h4 => ?_) (fun h4 => ?_)
        · have h4n := h4; try simp only [dtt, dff, bqi, bqf, bni, bnf, nt1, nf1, nt0, nf0, ne_eq, ilt, ile, Int.toNat_natCast] at h4n
          refine AW.region ?_
          refine AL.go (OpR.plain rfl (r_move rfl (nb rfl) (by rintro _ ⟨⟩))) ?_
          refine AL.go (OpR.plain rfl (r_move rfl (nb rfl) (by rintro _ ⟨⟩))) ?_
          refine AL.go (OpR.plain rfl (r_callFun (name2_s s _ hs (by omega)) en_39 rfl rfl rfl rfl (.cons (A.le_refl _) (.cons (A.le_refl _) .nil)) rfl (nb rfl))) ?_
          refine AL.go (OpR.plain rfl (r_move rfl (nb rfl) (by rintro _ ⟨⟩))) ?_
          refine AL.go (OpR.plain rfl (r_extract rfl rfl (nb rfl))) ?_
          refine AL.go (OpR.plain rfl (r_extract rfl rfl (nb rfl))) ?_
          refine AL.go (OpR.plain rfl (r_extract rfl rfl (nb rfl))) ?_
          refine AL.go (OpR.plain rfl (r_storeN ti_53 rfl rfl rfl rfl rfl (nb rfl) (by simp only [putAt, tks, tkz, tkn, dps, dpz, cap, nap, apn, lnc, lnn, zad, Nat.reduceAdd, adz]; rfl) (by rintro _ ⟨⟩))) ?_
          refine AL.go (OpR.plain rfl (r_assign rfl (nb rfl) (by rintro _ ⟨⟩))) ?_
          refine AL.go (OpR.plain rfl (r_assign rfl (nb rfl) (by rintro _ ⟨⟩))) ?_
          refine AL.nil ?_
          refine inbN ?_
          refine thenN ?_
          refine AW.seq ?_
          refine AW.seq ?_
          refine AW.region ?_
          refine AL.go (OpR.plain rfl (r_move rfl (nb rfl) (by rintro _ ⟨⟩))) ?_
          refine AL.go (OpR.plain rfl (r_bin rfl rfl (nb rfl) rfl (run_int_neq _ _ _))) ?_
          refine AL.nil ?_
          refine thenN ?_
          refine AW.condb rfl (fun h5 => ?_) (fun h5 => ?_)
          · have h5n := h5; try simp only [dtt, dff, bqi, bqf, bni, bnf, nt1, nf1, nt0, nf0, ne_eq, ilt, ile, Int.toNat_natCast] at h5n
            refine AW.seq ?_
            refine AW.region ?_
            refine AL.go (OpR.plain rfl (r_build pl_53 rfl zc_53 rfl rfl (by simp only [fillC, putAt, gez, ges, if_true, and_self, Nat.reduceLeDiff, true_and, tks, tkz, tkn, dps, dpz, cap, nap, apn, lnc, lnn, zad, Nat.reduceAdd, adz]; rfl) (nb rfl))) ?_
            refine AL.go (OpR.plain rfl (r_move rfl (nb rfl) (by rintro _ ⟨⟩))) ?_
            refine AL.go (OpR.plain rfl (r_move rfl (nb rfl) (by rintro _ ⟨⟩))) ?_
            refine AL.go (OpR.plain rfl (r_storeN ti_53 rfl rfl rfl rfl rfl (nb rfl) (by simp only [putAt, tks, tkz, tkn, dps, dpz, cap, nap, apn, lnc, lnn, zad, Nat.reduceAdd, adz]; rfl) (by rintro _ ⟨⟩))) ?_
            refine AL.go (OpR.plain rfl (r_assign rfl (nb rfl) (by rintro _ ⟨⟩))) ?_
            refine AL.go (OpR.plain rfl (r_assign rfl (nb rfl) (by rintro _ ⟨⟩))) ?_
            refine AL.nil ?_
            refine thenN ?_
            refine AW.ret ?_
            refine thenR ?_
            refine fin_id (.inr rfl) (ends_of rfl (.cell ti_53 rfl rfl (by simp only [loaded, if_true, ler, tks, tkz, tkn, dps, dpz, cap, nap, apn, lnc, lnn, zad, Nat.reduceAdd, adz]; rfl) (.tmp rfl (.tmp rfl .nil)))) ?_ .nil rfl rfl rfl rfl
            simp only [retA]
            first | (exfalso; omega) | (refine A.le_of_eq ?_; simp only [oneM, hB]; by_cases he : iI = s.size <;> first | (exfalso; omega) | (simp_all [errFix]; done) | (simp_all [errFix]; omega))
          · have h5n := h5; try simp only [dtt, dff, bqi, bqf, bni, bnf, nt1, nf1, nt0, nf0, ne_eq, ilt, ile, Int.toNat_natCast] at h5n
            refine AW.skip ?_
            refine thenN ?_
            refine AW.seq ?_
            refine AW.region ?_
            first | refine AL.go (OpR.plain rfl (r_load ti_53 rfl rfl (by simp only [loaded, mpc, mpn, if_true, ler, tks, tkz, tkn, dps, dpz, cap, nap, apn, lnc, lnn, zad, Nat.reduceAdd, adz]; rfl) (nb rfl))) ?_ | refine AL.go (OpR.plain rfl (r_loadp ti_53 rfl (by simp only [loaded, mpc, mpn, if_true, ler, tks, tkz, tkn, dps, dpz, cap, nap, apn, lnc, lnn, zad, Nat.reduceAdd, adz]; rfl) (nb rfl))) ?_
            refine AL.go (OpR.plain rfl (r_move rfl (nb rfl) (by rintro _ ⟨⟩))) ?_
            refine AL.go (OpR.plain rfl (r_storeN ti_53 rfl rfl rfl rfl rfl (nb rfl) (by simp only [putAt, tks, tkz, tkn, dps, dpz, cap, nap, apn, lnc, lnn, zad, Nat.reduceAdd, adz]; rfl) (by rintro _ ⟨⟩))) ?_
            refine AL.go (OpR.plain rfl (r_assign rfl (nb rfl) (by rintro _ ⟨⟩))) ?_
            refine AL.go (OpR.plain rfl (r_assign rfl (nb rfl) (by rintro _ ⟨⟩; rfl))) ?_
            refine AL.nil ?_
            refine thenN ?_
            refine AW.ret ?_
            refine fin_id (.inr rfl) (ends_of rfl (.cell ti_53 rfl rfl (by simp only [loaded, if_true, ler, tks, tkz, tkn, dps, dpz, cap, nap, apn, lnc, lnn, zad, Nat.reduceAdd, adz]; rfl) (.tmp rfl (.tmp rfl .nil)))) ?_ .nil rfl rfl rfl rfl
            simp only [retA]
            first | (exfalso; omega) | (refine A.le_of_eq ?_; simp only [oneM, hB]; by_cases he : iI = s.size <;> first | (exfalso; omega) | (simp_all [errFix]; done) | (simp_all [errFix]; omega))
        · have h4n := h4; try simp only [dtt, dff, bqi, bqf, bni, bnf, nt1, nf1, nt0, nf0, ne_eq, ilt, ile, Int.toNat_natCast] at h4n
          refine AW.seq ?_
          refine AW.region ?_
          refine AL.go (OpR.plain rfl (r_move rfl (nb rfl) (by rintro _ ⟨⟩))) ?_
          refine AL.go (OpR.plain rfl (r_move rfl (nb rfl) (by rintro _ ⟨⟩))) ?_
          refine AL.go (OpR.plain rfl (r_byteD un_9 rfl rfl (nb rfl) (by first | omega | (simp only [Int.toNat_natCast] at *; omega)) (by first | omega | (simp only [Int.toNat_natCast] at *; omega)))) ?_
          refine AL.go (OpR.plain rfl (r_callFun (digit_s _) en_40 rfl rfl rfl rfl (.cons (A.le_refl _) .nil) rfl (nb rfl))) ?_
          refine AL.go (OpR.plain rfl (r_assign rfl (nb rfl) (by rintro _ ⟨⟩))) ?_
          refine AL.nil ?_
          refine thenN ?_
          refine AW.condb rfl (fun h6 => ?_) (fun h6 => ?_)
          · have h6n := h6; try simp only [dtt, dff, bqi, bqf, bni, bnf, nt1, nf1, nt0, nf0, ne_eq, ilt, ile, Int.toNat_natCast] at h6n
            refine AW.region ?_
            refine AL.go (OpR.plain rfl (r_move rfl (nb rfl) (by rintro _ ⟨⟩))) ?_
            refine AL.go (OpR.plain rfl (r_move rfl (nb rfl) (by rintro _ ⟨⟩))) ?_
            refine AL.go (OpR.plain rfl (r_callFun (number_s s _ hs (by omega)) en_41 rfl rfl rfl rfl (.cons (A.le_refl _) (.cons (A.le_refl _) .nil)) rfl (nb rfl))) ?_
            refine AL.go (OpR.plain rfl (r_move rfl (nb rfl) (by rintro _ ⟨⟩))) ?_
            refine AL.go (OpR.plain rfl (r_extract rfl rfl (nb rfl))) ?_
            refine AL.go (OpR.plain rfl (r_extract rfl rfl (nb rfl))) ?_
            refine AL.go (OpR.plain rfl (r_extract rfl rfl (nb rfl))) ?_
            refine AL.go (OpR.plain rfl (r_storeN ti_53 rfl rfl rfl rfl rfl (nb rfl) (by simp only [putAt, tks, tkz, tkn, dps, dpz, cap, nap, apn, lnc, lnn, zad, Nat.reduceAdd, adz]; rfl) (by rintro _ ⟨⟩))) ?_
            refine AL.go (OpR.plain rfl (r_assign rfl (nb rfl) (by rintro _ ⟨⟩))) ?_
            refine AL.go (OpR.plain rfl (r_assign rfl (nb rfl) (by rintro _ ⟨⟩))) ?_
            refine AL.nil ?_
            refine inbN ?_
            refine thenN ?_
            refine AW.seq ?_
            refine AW.seq ?_
            refine AW.region ?_
            refine AL.go (OpR.plain rfl (r_move rfl (nb rfl) (by rintro _ ⟨⟩))) ?_
            refine AL.go (OpR.plain rfl (r_bin rfl rfl (nb rfl) rfl (run_int_neq _ _ _))) ?_
            refine AL.nil ?_
            refine thenN ?_
            refine AW.condb rfl (fun h7 => ?_) (fun h7 => ?_)
            · have h7n := h7; try simp only [dtt, dff, bqi, bqf, bni, bnf, nt1, nf1, nt0, nf0, ne_eq, ilt, ile, Int.toNat_natCast] at h7n
              refine AW.seq ?_
              refine AW.region ?_
              refine AL.go (OpR.plain rfl (r_build pl_53 rfl zc_53 rfl rfl (by simp only [fillC, putAt, gez, ges, if_true, and_self, Nat.reduceLeDiff, true_and, tks, tkz, tkn, dps, dpz, cap, nap, apn, lnc, lnn, zad, Nat.reduceAdd, adz]; rfl) (nb rfl))) ?_
              refine AL.go (OpR.plain rfl (r_move rfl (nb rfl) (by rintro _ ⟨⟩))) ?_
              refine AL.go (OpR.plain rfl (r_move rfl (nb rfl) (by rintro _ ⟨⟩))) ?_
              refine AL.go (OpR.plain rfl (r_storeN ti_53 rfl rfl rfl rfl rfl (nb rfl) (by simp only [putAt, tks, tkz, tkn, dps, dpz, cap, nap, apn, lnc, lnn, zad, Nat.reduceAdd, adz]; rfl) (by rintro _ ⟨⟩))) ?_
              refine AL.go (OpR.plain rfl (r_assign rfl (nb rfl) (by rintro _ ⟨⟩))) ?_
              refine AL.go (OpR.plain rfl (r_assign rfl (nb rfl) (by rintro _ ⟨⟩))) ?_
              refine AL.nil ?_
              refine thenN ?_
              refine AW.ret ?_
              refine thenR ?_
              refine fin_id (.inr rfl) (ends_of rfl (.cell ti_53 rfl rfl (by simp only [loaded, if_true, ler, tks, tkz, tkn, dps, dpz, cap, nap, apn, lnc, lnn, zad, Nat.reduceAdd, adz]; rfl) (.tmp rfl (.tmp rfl .nil)))) ?_ .nil rfl rfl rfl rfl
              simp only [retA]
              first | (exfalso; omega) | (refine A.le_of_eq ?_; simp only [oneM, hB]; by_cases he : iI = s.size <;> first | (exfalso; omega) | (simp_all [errFix]; done) | (simp_all [errFix]; omega))
            · have h7n := h7; try simp only [dtt, dff, bqi, bqf, bni, bnf, nt1, nf1, nt0, nf0, ne_eq, ilt, ile, Int.toNat_natCast] at h7n
              refine AW.skip ?_
              refine thenN ?_
              refine AW.seq ?_
              refine AW.region ?_
              first | refine AL.go (OpR.plain rfl (r_load ti_53 rfl rfl (by simp only [loaded, mpc, mpn, if_true, ler, tks, tkz, tkn, dps, dpz, cap, nap, apn, lnc, lnn, zad, Nat.reduceAdd, adz]; rfl) (nb rfl))) ?_ | refine AL.go (OpR.plain rfl (r_loadp ti_53 rfl (by simp only [loaded, mpc, mpn, if_true, ler, tks, tkz, tkn, dps, dpz, cap, nap, apn, lnc, lnn, zad, Nat.reduceAdd, adz]; rfl) (nb rfl))) ?_
              refine AL.go (OpR.plain rfl (r_move rfl (nb rfl) (by rintro _ ⟨⟩))) ?_
              refine AL.go (OpR.plain rfl (r_storeN ti_53 rfl rfl rfl rfl rfl (nb rfl) (by simp only [putAt, tks, tkz, tkn, dps, dpz, cap, nap, apn, lnc, lnn, zad, Nat.reduceAdd, adz]; rfl) (by rintro _ ⟨⟩))) ?_
              refine AL.go (OpR.plain rfl (r_assign rfl (nb rfl) (by rintro _ ⟨⟩))) ?_
              refine AL.go (OpR.plain rfl (r_assign rfl (nb rfl) (by rintro _ ⟨⟩; rfl))) ?_
              refine AL.nil ?_
              refine thenN ?_
              refine AW.ret ?_
              refine fin_id (.inr rfl) (ends_of rfl (.cell ti_53 rfl rfl (by simp only [loaded, if_true, ler, tks, tkz, tkn, dps, dpz, cap, nap, apn, lnc, lnn, zad, Nat.reduceAdd, adz]; rfl) (.tmp rfl (.tmp rfl .nil)))) ?_ .nil rfl rfl rfl rfl
              simp only [retA]
              first | (exfalso; omega) | (refine A.le_of_eq ?_; simp only [oneM, hB]; by_cases he : iI = s.size <;> first | (exfalso; omega) | (simp_all [errFix]; done) | (simp_all [errFix]; omega))
          · have h6n := h6; try simp only [dtt, dff, bqi, bqf, bni, bnf, nt1, nf1, nt0, nf0, ne_eq, ilt, ile, Int.toNat_natCast] at h6n
            refine AW.seq ?_
            refine AW.region ?_
            refine AL.go (OpR.plain rfl (r_move rfl (nb rfl) (by rintro _ ⟨⟩))) ?_
            refine AL.go (OpR.plain rfl (r_move rfl (nb rfl) (by rintro _ ⟨⟩))) ?_
            refine AL.go (OpR.plain rfl (r_byteD un_9 rfl rfl (nb rfl) (by first | omega | (simp only [Int.toNat_natCast] at *; omega)) (by first | omega | (simp only [Int.toNat_natCast] at *; omega)))) ?_
            refine AL.go (OpR.plain rfl (r_bin rfl rfl (nb rfl) rfl (run_int_eql _ _ _))) ?_
            refine AL.go (OpR.plain rfl (r_assign rfl (nb rfl) (by rintro _ ⟨⟩))) ?_
            refine AL.nil ?_
            refine thenN ?_
            refine AW.condb rfl (fun h8 => ?_) (fun h8 => ?_)
            · have h8n := h8; try simp only [dtt, dff, bqi, bqf, bni, bnf, nt1, nf1, nt0, nf0, ne_eq, ilt, ile, Int.toNat_natCast] at h8n
              refine AW.region ?_
              refine AL.go (OpR.plain rfl (r_move rfl (nb rfl) (by rintro _ ⟨⟩))) ?_
              refine AL.go (OpR.plain rfl (r_move rfl (nb rfl) (by rintro _ ⟨⟩))) ?_
              refine AL.go (OpR.plain rfl (r_callFun (ptext_s s _ hs (by omega)) en_42 rfl rfl rfl rfl (.cons (A.le_refl _) (.cons (A.le_refl _) .nil)) rfl (nb rfl))) ?_
              refine AL.go (OpR.plain rfl (r_move rfl (nb rfl) (by rintro _ ⟨⟩))) ?_
              refine AL.go (OpR.plain rfl (r_extract rfl rfl (nb rfl))) ?_
              refine AL.go (OpR.plain rfl (r_extract rfl rfl (nb rfl))) ?_
              refine AL.go (OpR.plain rfl (r_extract rfl rfl (nb rfl))) ?_
              refine AL.go (OpR.plain rfl (r_storeN ti_53 rfl rfl rfl rfl rfl (nb rfl) (by simp only [putAt, tks, tkz, tkn, dps, dpz, cap, nap, apn, lnc, lnn, zad, Nat.reduceAdd, adz]; rfl) (by rintro _ ⟨⟩))) ?_
              refine AL.go (OpR.plain rfl (r_assign rfl (nb rfl) (by rintro _ ⟨⟩))) ?_
              refine AL.go (OpR.plain rfl (r_assign rfl (nb rfl) (by rintro _ ⟨⟩))) ?_
              refine AL.nil ?_
              refine inbN ?_
              refine thenN ?_
              refine AW.seq ?_
              refine AW.seq ?_
              refine AW.region ?_
              refine AL.go (OpR.plain rfl (r_move rfl (nb rfl) (by rintro _ ⟨⟩))) ?_
              refine AL.go (OpR.plain rfl (r_bin rfl rfl (nb rfl) rfl (run_int_neq _ _ _))) ?_
              refine AL.nil ?_
              refine thenN ?_
              refine AW.condb rfl (fun h9 => ?_) (fun h9 => ?_)
              · have h9n := h9; try simp only [dtt, dff, bqi, bqf, bni, bnf, nt1, nf1, nt0, nf0, ne_eq, ilt, ile, Int.toNat_natCast] at h9n
                refine AW.seq ?_
                refine AW.region ?_
                refine AL.go (OpR.plain rfl (r_build pl_53 rfl zc_53 rfl rfl (by simp only [fillC, putAt, gez, ges, if_true, and_self, Nat.reduceLeDiff, true_and, tks, tkz, tkn, dps, dpz, cap, nap, apn, lnc, lnn, zad, Nat.reduceAdd, adz]; rfl) (nb rfl))) ?_
                refine AL.go (OpR.plain rfl (r_move rfl (nb rfl) (by rintro _ ⟨⟩))) ?_
                refine AL.go (OpR.plain rfl (r_move rfl (nb rfl) (by rintro _ ⟨⟩))) ?_
                refine AL.go (OpR.plain rfl (r_storeN ti_53 rfl rfl rfl rfl rfl (nb rfl) (by simp only [putAt, tks, tkz, tkn, dps, dpz, cap, nap, apn, lnc, lnn, zad, Nat.reduceAdd, adz]; rfl) (by rintro _ ⟨⟩))) ?_
                refine AL.go (OpR.plain rfl (r_assign rfl (nb rfl) (by rintro _ ⟨⟩))) ?_
                refine AL.go (OpR.plain rfl (r_assign rfl (nb rfl) (by rintro _ ⟨⟩))) ?_
                refine AL.nil ?_
                refine thenN ?_
                refine AW.ret ?_
                refine thenR ?_
                refine fin_id (.inr rfl) (ends_of rfl (.cell ti_53 rfl rfl (by simp only [loaded, if_true, ler, tks, tkz, tkn, dps, dpz, cap, nap, apn, lnc, lnn, zad, Nat.reduceAdd, adz]; rfl) (.tmp rfl (.tmp rfl .nil)))) ?_ .nil rfl rfl rfl rfl
                simp only [retA]
                first | (exfalso; omega) | (refine A.le_of_eq ?_; simp only [oneM, hB]; by_cases he : iI = s.size <;> first | (exfalso; omega) | (simp_all [errFix]; done) | (simp_all [errFix]; omega))
              · have h9n := h9; try simp only [dtt, dff, bqi, bqf, bni, bnf, nt1, nf1, nt0, nf0, ne_eq, ilt, ile, Int.toNat_natCast] at h9n
                refine AW.skip ?_
                refine thenN ?_
                refine AW.seq ?_
                refine AW.region ?_
                first | refine AL.go (OpR.plain rfl (r_load ti_53 rfl rfl (by simp only [loaded, mpc, mpn, if_true, ler, tks, tkz, tkn, dps, dpz, cap, nap, apn, lnc, lnn, zad, Nat.reduceAdd, adz]; rfl) (nb rfl))) ?_ | refine AL.go (OpR.plain rfl (r_loadp ti_53 rfl (by simp only [loaded, mpc, mpn, if_true, ler, tks, tkz, tkn, dps, dpz, cap, nap, apn, lnc, lnn, zad, Nat.reduceAdd, adz]; rfl) (nb rfl))) ?_
                refine AL.go (OpR.plain rfl (r_move rfl (nb rfl) (by rintro _ ⟨⟩))) ?_
                refine AL.go (OpR.plain rfl (r_storeN ti_53 rfl rfl rfl rfl rfl (nb rfl) (by simp only [putAt, tks, tkz, tkn, dps, dpz, cap, nap, apn, lnc, lnn, zad, Nat.reduceAdd, adz]; rfl) (by rintro _ ⟨⟩))) ?_
                refine AL.go (OpR.plain rfl (r_assign rfl (nb rfl) (by rintro _ ⟨⟩))) ?_
                refine AL.go (OpR.plain rfl (r_assign rfl (nb rfl) (by rintro _ ⟨⟩; rfl))) ?_
                refine AL.nil ?_
                refine thenN ?_
                refine AW.ret ?_
                refine fin_id (.inr rfl) (ends_of rfl (.cell ti_53 rfl rfl (by simp only [loaded, if_true, ler, tks, tkz, tkn, dps, dpz, cap, nap, apn, lnc, lnn, zad, Nat.reduceAdd, adz]; rfl) (.tmp rfl (.tmp rfl .nil)))) ?_ .nil rfl rfl rfl rfl
                simp only [retA]
                first | (exfalso; omega) | (refine A.le_of_eq ?_; simp only [oneM, hB]; by_cases he : iI = s.size <;> first | (exfalso; omega) | (simp_all [errFix]; done) | (simp_all [errFix]; omega))
            · have h8n := h8; try simp only [dtt, dff, bqi, bqf, bni, bnf, nt1, nf1, nt0, nf0, ne_eq, ilt, ile, Int.toNat_natCast] at h8n
              refine AW.seq ?_
              refine AW.region ?_
              refine AL.go (OpR.plain rfl (r_move rfl (nb rfl) (by rintro _ ⟨⟩))) ?_
              refine AL.go (OpR.plain rfl (r_bin rfl rfl (nb rfl) rfl (run_str_neq _ _))) ?_
              refine AL.go (OpR.plain rfl (r_assign rfl (nb rfl) (by rintro _ ⟨⟩))) ?_
              refine AL.nil ?_
              refine thenN ?_
              refine AW.condb rfl (fun h10 => ?_) (fun h10 => ?_)
              · have h10n := h10; try simp only [dtt, dff, bqi, bqf, bni, bnf, nt1, nf1, nt0, nf0, ne_eq, ilt, ile, Int.toNat_natCast] at h10n
                refine AW.seq ?_
                refine AW.region ?_
                refine AL.go (OpR.plain rfl (r_move rfl (nb rfl) (by rintro _ ⟨⟩))) ?_
                refine AL.go (OpR.plain rfl (r_move rfl (nb rfl) (by rintro _ ⟨⟩))) ?_
                refine AL.go (OpR.plain rfl (r_build pl_53 rfl zc_53 rfl rfl (by simp only [fillC, putAt, gez, ges, if_true, and_self, Nat.reduceLeDiff, true_and, tks, tkz, tkn, dps, dpz, cap, nap, apn, lnc, lnn, zad, Nat.reduceAdd, adz]; rfl) (nb rfl))) ?_
                refine AL.go (OpR.plain rfl (r_move rfl (nb rfl) (by rintro _ ⟨⟩))) ?_
                refine AL.go (OpR.plain rfl (r_move rfl (nb rfl) (by rintro _ ⟨⟩))) ?_
                refine AL.go (OpR.plain rfl (r_lens un_9 rfl (nb rfl))) ?_
                refine AL.go (OpR.plain rfl (r_add rfl rfl (nb rfl) (by first | omega | (simp only [Int.toNat_natCast] at *; omega)) (by first | omega | (simp only [Int.toNat_natCast] at *; omega)))) ?_
                refine AL.go (OpR.plain rfl (r_storeN ti_53 rfl rfl rfl rfl rfl (nb rfl) (by simp only [putAt, tks, tkz, tkn, dps, dpz, cap, nap, apn, lnc, lnn, zad, Nat.reduceAdd, adz]; rfl) (by rintro _ ⟨⟩))) ?_
                refine AL.go (OpR.plain rfl (r_assign rfl (nb rfl) (by rintro _ ⟨⟩))) ?_
                refine AL.go (OpR.plain rfl (r_assign rfl (nb rfl) (by rintro _ ⟨⟩; rfl))) ?_
                refine AL.nil ?_
                refine thenN ?_
                refine AW.ret ?_
                refine inbR ?_
                refine thenR ?_
                refine fin_id (.inr rfl) (ends_of rfl (.cell ti_53 rfl rfl (by simp only [loaded, if_true, ler, tks, tkz, tkn, dps, dpz, cap, nap, apn, lnc, lnn, zad, Nat.reduceAdd, adz]; rfl) (.tmp rfl (.tmp rfl .nil)))) ?_ .nil rfl rfl rfl rfl
                simp only [retA]
                first | (exfalso; omega) | (refine A.le_of_eq ?_; simp only [oneM, hB]; by_cases he : iI = s.size <;> first | (exfalso; omega) | (simp_all [errFix]; done) | (simp_all [errFix]; omega))
              · have h10n := h10; try simp only [dtt, dff, bqi, bqf, bni, bnf, nt1, nf1, nt0, nf0, ne_eq, ilt, ile, Int.toNat_natCast] at h10n
                refine AW.region ?_
                refine AL.go (OpR.plain rfl (r_assign rfl (nb rfl) (by rintro _ ⟨⟩; rfl))) ?_
                refine AL.nil ?_
                refine inbN ?_
                refine thenN ?_
                refine AW.seq ?_
                refine AW.seq ?_
                refine AW.region ?_
                refine AL.go (OpR.plain rfl (r_move rfl (nb rfl) (by rintro _ ⟨⟩))) ?_
                refine AL.go (OpR.plain rfl (r_bin rfl rfl (nb rfl) rfl (run_int_neq _ _ _))) ?_
                refine AL.nil ?_
                refine thenN ?_
                refine AW.condb rfl (fun h11 => ?_) (fun h11 => ?_)
                · have h11n := h11; try simp only [dtt, dff, bqi, bqf, bni, bnf, nt1, nf1, nt0, nf0, ne_eq, ilt, ile, Int.toNat_natCast] at h11n
                  refine AW.seq ?_
                  refine AW.region ?_
                  refine AL.go (OpR.plain rfl (r_build pl_53 rfl zc_53 rfl rfl (by simp only [fillC, putAt, gez, ges, if_true, and_self, Nat.reduceLeDiff, true_and, tks, tkz, tkn, dps, dpz, cap, nap, apn, lnc, lnn, zad, Nat.reduceAdd, adz]; rfl) (nb rfl))) ?_
                  refine AL.go (OpR.plain rfl (r_move rfl (nb rfl) (by rintro _ ⟨⟩))) ?_
                  refine AL.go (OpR.plain rfl (r_move rfl (nb rfl) (by rintro _ ⟨⟩))) ?_
                  refine AL.go (OpR.plain rfl (r_storeN ti_53 rfl rfl rfl rfl rfl (nb rfl) (by simp only [putAt, tks, tkz, tkn, dps, dpz, cap, nap, apn, lnc, lnn, zad, Nat.reduceAdd, adz]; rfl) (by rintro _ ⟨⟩))) ?_
                  refine AL.go (OpR.plain rfl (r_assign rfl (nb rfl) (by rintro _ ⟨⟩))) ?_
                  refine AL.go (OpR.plain rfl (r_assign rfl (nb rfl) (by rintro _ ⟨⟩))) ?_
                  refine AL.nil ?_
                  refine thenN ?_
                  refine AW.ret ?_
                  refine thenR ?_
                  refine fin_id (.inr rfl) (ends_of rfl (.cell ti_53 rfl rfl (by simp only [loaded, if_true, ler, tks, tkz, tkn, dps, dpz, cap, nap, apn, lnc, lnn, zad, Nat.reduceAdd, adz]; rfl) (.tmp rfl (.tmp rfl .nil)))) ?_ .nil rfl rfl rfl rfl
                  simp only [retA]
                  first | (exfalso; omega) | (refine A.le_of_eq ?_; simp only [oneM, hB]; by_cases he : iI = s.size <;> first | (exfalso; omega) | (simp_all [errFix]; done) | (simp_all [errFix]; omega))
                · have h11n := h11; try simp only [dtt, dff, bqi, bqf, bni, bnf, nt1, nf1, nt0, nf0, ne_eq, ilt, ile, Int.toNat_natCast] at h11n
                  refine AW.skip ?_
                  refine thenN ?_
                  refine AW.seq ?_
                  refine AW.region ?_
                  first | refine AL.go (OpR.plain rfl (r_load ti_53 rfl rfl (by simp only [loaded, mpc, mpn, if_true, ler, tks, tkz, tkn, dps, dpz, cap, nap, apn, lnc, lnn, zad, Nat.reduceAdd, adz]; rfl) (nb rfl))) ?_ | refine AL.go (OpR.plain rfl (r_loadp ti_53 rfl (by simp only [loaded, mpc, mpn, if_true, ler, tks, tkz, tkn, dps, dpz, cap, nap, apn, lnc, lnn, zad, Nat.reduceAdd, adz]; rfl) (nb rfl))) ?_
                  refine AL.go (OpR.plain rfl (r_move rfl (nb rfl) (by rintro _ ⟨⟩))) ?_
                  refine AL.go (OpR.plain rfl (r_storeN ti_53 rfl rfl rfl rfl rfl (nb rfl) (by simp only [putAt, tks, tkz, tkn, dps, dpz, cap, nap, apn, lnc, lnn, zad, Nat.reduceAdd, adz]; rfl) (by rintro _ ⟨⟩))) ?_
                  refine AL.go (OpR.plain rfl (r_assign rfl (nb rfl) (by rintro _ ⟨⟩))) ?_
                  refine AL.go (OpR.plain rfl (r_assign rfl (nb rfl) (by rintro _ ⟨⟩; rfl))) ?_
                  refine AL.nil ?_
                  refine thenN ?_
                  refine AW.ret ?_
                  refine fin_id (.inr rfl) (ends_of rfl (.cell ti_53 rfl rfl (by simp only [loaded, if_true, ler, tks, tkz, tkn, dps, dpz, cap, nap, apn, lnc, lnn, zad, Nat.reduceAdd, adz]; rfl) (.tmp rfl (.tmp rfl .nil)))) ?_ .nil rfl rfl rfl rfl
                  simp only [retA]
                  first | (exfalso; omega) | (refine A.le_of_eq ?_; simp only [oneM, hB]; by_cases he : iI = s.size <;> first | (exfalso; omega) | (simp_all [errFix]; done) | (simp_all [errFix]; omega))
  · have h1n := h1; try simp only [dtt, dff, bqi, bqf, bni, bnf, nt1, nf1, nt0, nf0, ne_eq, ilt, ile, Int.toNat_natCast] at h1n
    refine AL.go (.off rfl rfl (nb rfl) rfl (by rw [h1]; decide) rfl (nb rfl)) ?_
    refine AL.go (.off rfl rfl (nb rfl) rfl (by rw [h1]; decide) rfl (nb rfl)) ?_
    refine AL.go (.off rfl rfl (nb rfl) rfl (by rw [h1]; decide) rfl (nb rfl)) ?_
    refine AL.go (.off rfl rfl (nb rfl) rfl (by rw [h1]; decide) rfl (nb rfl)) ?_
    refine AL.go (OpR.plain rfl (r_pickFb rfl (h1) rfl (nb rfl) (by rintro _ ⟨⟩; rfl))) ?_
    refine AL.nil ?_
    refine thenN ?_
    refine AW.condF rfl (rfl) ?_
    refine AW.exit ?_
    refine thenX ?_
    refine thenX ?_
    refine inbE ?_
    refine thenN ?_
    refine AW.seq ?_
    refine AW.region ?_
    have hB : runOf isBlank s a = iI := hI.stop (by first | (left; omega) | (right; assumption))
    have hsz := signM_size s iI
    refine AL.go (OpR.plain rfl (r_move rfl (nb rfl) (by rintro _ ⟨⟩))) ?_
    refine AL.go (OpR.plain rfl (r_move rfl (nb rfl) (by rintro _ ⟨⟩))) ?_
    refine AL.go (OpR.plain rfl (r_callFun (psign_s s _ hs (by omega)) en_37 rfl rfl rfl rfl (.cons (A.le_refl _) (.cons (A.le_refl _) .nil)) rfl (nb rfl))) ?_
    refine AL.go (OpR.plain rfl (r_assign rfl (nb rfl) (by rintro _ ⟨⟩))) ?_
    refine AL.nil ?_
    refine thenN ?_
    refine AW.seq ?_
    refine AW.block ?_
    refine AW.seq ?_
    refine AW.region ?_
    refine AL.go (OpR.plain rfl (r_move rfl (nb rfl) (by rintro _ ⟨⟩))) ?_
    refine AL.go (OpR.plain rfl (r_move rfl (nb rfl) (by rintro _ ⟨⟩))) ?_
    refine AL.go (OpR.plain rfl (r_lens un_9 rfl (nb rfl))) ?_
    refine AL.go (OpR.plain rfl (r_bin rfl rfl (nb rfl) rfl (run_int_eql _ _ _))) ?_
    refine AL.go (OpR.plain rfl (r_assign rfl (nb rfl) (by rintro _ ⟨⟩))) ?_
    refine AL.nil ?_
    refine thenN ?_
    refine AW.condb rfl (fun h12 => ?_) (fun h12 => ?_)
    · have h12n := h12; try simp only [dtt, dff, bqi, bqf, bni, bnf, nt1, nf1, nt0, nf0, ne_eq, ilt, ile, Int.toNat_natCast] at h12n
      refine AW.seq ?_
      refine AW.region ?_
      refine AL.go (OpR.plain rfl (r_move rfl (nb rfl) (by rintro _ ⟨⟩))) ?_
      refine AL.go (OpR.plain rfl (r_build pl_53 rfl zc_53 rfl rfl (by simp only [fillC, putAt, gez, ges, if_true, and_self, Nat.reduceLeDiff, true_and, tks, tkz, tkn, dps, dpz, cap, nap, apn, lnc, lnn, zad, Nat.reduceAdd, adz]; rfl) (nb rfl))) ?_
      refine AL.go (OpR.plain rfl (r_move rfl (nb rfl) (by rintro _ ⟨⟩))) ?_
      refine AL.go (OpR.plain rfl (r_storeN ti_53 rfl rfl rfl rfl rfl (nb rfl) (by simp only [putAt, tks, tkz, tkn, dps, dpz, cap, nap, apn, lnc, lnn, zad, Nat.reduceAdd, adz]; rfl) (by rintro _ ⟨⟩))) ?_
      refine AL.go (OpR.plain rfl (r_assign rfl (nb rfl) (by rintro _ ⟨⟩))) ?_
      refine AL.go (OpR.plain rfl (r_assign rfl (nb rfl) (by rintro _ ⟨⟩; rfl))) ?_
      refine AL.nil ?_
      refine thenN ?_
      refine AW.ret ?_
      refine inbR ?_
      refine thenR ?_
      refine fin_id (.inr rfl) (ends_of rfl (.cell ti_53 rfl rfl (by simp only [loaded, if_true, ler, tks, tkz, tkn, dps, dpz, cap, nap, apn, lnc, lnn, zad, Nat.reduceAdd, adz]; rfl) (.tmp rfl (.tmp rfl .nil)))) ?_ .nil rfl rfl rfl rfl
      simp only [retA]
      first | (exfalso; omega) | (refine A.le_of_eq ?_; simp only [oneM, hB]; by_cases he : iI = s.size <;> first | (exfalso; omega) | (simp_all [errFix]; done) | (simp_all [errFix]; omega))
    · have h12n := h12; try simp only [dtt, dff, bqi, bqf, bni, bnf, nt1, nf1, nt0, nf0, ne_eq, ilt, ile, Int.toNat_natCast] at h12n
      refine AW.seq ?_
      refine AW.region ?_
      refine AL.go (OpR.plain rfl (r_move rfl (nb rfl) (by rintro _ ⟨⟩))) ?_
      refine AL.go (OpR.plain rfl (r_move rfl (nb rfl) (by rintro _ ⟨⟩))) ?_
      refine AL.go (OpR.plain rfl (r_byteD un_9 rfl rfl (nb rfl) (by first | omega | (simp only [Int.toNat_natCast] at *; omega)) (by first | omega | (simp only [Int.toNat_natCast] at *; omega)))) ?_
      refine AL.go (OpR.plain rfl (r_callFun (letter_s _) en_38 rfl rfl rfl rfl (.cons (A.le_refl _) .nil) rfl (nb rfl))) ?_
      refine AL.go (OpR.plain rfl (r_assign rfl (nb rfl) (by rintro _ ⟨⟩))) ?_
      refine AL.nil ?_
      refine thenN ?_
      refine AW.condb rfl (fun h13 => ?_) (fun h13 => ?_)
      · have h13n := h13; try simp only [dtt, dff, bqi, bqf, bni, bnf, nt1, nf1, nt0, nf0, ne_eq, ilt, ile, Int.toNat_natCast] at h13n
        refine AW.region ?_
        refine AL.go (OpR.plain rfl (r_move rfl (nb rfl) (by rintro _ ⟨⟩))) ?_
        refine AL.go (OpR.plain rfl (r_move rfl (nb rfl) (by rintro _ ⟨⟩))) ?_
        refine AL.go (OpR.plain rfl (r_callFun (name2_s s _ hs (by omega)) en_39 rfl rfl rfl rfl (.cons (A.le_refl _) (.cons (A.le_refl _) .nil)) rfl (nb rfl))) ?_
        refine AL.go (OpR.plain rfl (r_move rfl (nb rfl) (by rintro _ ⟨⟩))) ?_
        refine AL.go (OpR.plain rfl (r_extract rfl rfl (nb rfl))) ?_
        refine AL.go (OpR.plain rfl (r_extract rfl rfl (nb rfl))) ?_
        refine AL.go (OpR.plain rfl (r_extract rfl rfl (nb rfl))) ?_
        refine AL.go (OpR.plain rfl (r_storeN ti_53 rfl rfl rfl rfl rfl (nb rfl) (by simp only [putAt, tks, tkz, tkn, dps, dpz, cap, nap, apn, lnc, lnn, zad, Nat.reduceAdd, adz]; rfl) (by rintro _ ⟨⟩))) ?_
        refine AL.go (OpR.plain rfl (r_assign rfl (nb rfl) (by rintro _ ⟨⟩))) ?_
        refine AL.go (OpR.plain rfl (r_assign rfl (nb rfl) (by rintro _ ⟨⟩))) ?_
        refine AL.nil ?_
        refine inbN ?_
        refine thenN ?_
        refine AW.seq ?_
        refine AW.seq ?_
        refine AW.region ?_
        refine AL.go (OpR.plain rfl (r_move rfl (nb rfl) (by rintro _ ⟨⟩))) ?_
        refine AL.go (OpR.plain rfl (r_bin rfl rfl (nb rfl) rfl (run_int_neq _ _ _))) ?_
        refine AL.nil ?_
        refine thenN ?_
        refine AW.condb rfl (fun h14 => ?_) (fun h14 => ?_)
        · have h14n := h14; try simp only [dtt, dff, bqi, bqf, bni, bnf, nt1, nf1, nt0, nf0, ne_eq, ilt, ile, Int.toNat_natCast] at h14n
          refine AW.seq ?_
          refine AW.region ?_
          refine AL.go (OpR.plain rfl (r_build pl_53 rfl zc_53 rfl rfl (by simp only [fillC, putAt, gez, ges, if_true, and_self, Nat.reduceLeDiff, true_and, tks, tkz, tkn, dps, dpz, cap, nap, apn, lnc, lnn, zad, Nat.reduceAdd, adz]; rfl) (nb rfl))) ?_
          refine AL.go (OpR.plain rfl (r_move rfl (nb rfl) (by rintro _ ⟨⟩))) ?_
          refine AL.go (OpR.plain rfl (r_move rfl (nb rfl) (by rintro _ ⟨⟩))) ?_
          refine AL.go (OpR.plain rfl (r_storeN ti_53 rfl rfl rfl rfl rfl (nb rfl) (by simp only [putAt, tks, tkz, tkn, dps, dpz, cap, nap, apn, lnc, lnn, zad, Nat.reduceAdd, adz]; rfl) (by rintro _ ⟨⟩))) ?_
          refine AL.go (OpR.plain rfl (r_assign rfl (nb rfl) (by rintro _ ⟨⟩))) ?_
          refine AL.go (OpR.plain rfl (r_assign rfl (nb rfl) (by rintro _ ⟨⟩))) ?_
          refine AL.nil ?_
          refine thenN ?_
          refine AW.ret ?_
          refine thenR ?_
          refine fin_id (.inr rfl) (ends_of rfl (.cell ti_53 rfl rfl (by simp only [loaded, if_true, ler, tks, tkz, tkn, dps, dpz, cap, nap, apn, lnc, lnn, zad, Nat.reduceAdd, adz]; rfl) (.tmp rfl (.tmp rfl .nil)))) ?_ .nil rfl rfl rfl rfl
          simp only [retA]
          first | (exfalso; omega) | (refine A.le_of_eq ?_; simp only [oneM, hB]; by_cases he : iI = s.size <;> first | (exfalso; omega) | (simp_all [errFix]; done) | (simp_all [errFix]; omega))
        · have h14n := h14; try simp only [dtt, dff, bqi, bqf, bni, bnf, nt1, nf1, nt0, nf0, ne_eq, ilt, ile, Int.toNat_natCast] at h14n
          refine AW.skip ?_
          refine thenN ?_
          refine AW.seq ?_
          refine AW.region ?_
          first | refine AL.go (OpR.plain rfl (r_load ti_53 rfl rfl (by simp only [loaded, mpc, mpn, if_true, ler, tks, tkz, tkn, dps, dpz, cap, nap, apn, lnc, lnn, zad, Nat.reduceAdd, adz]; rfl) (nb rfl))) ?_ | refine AL.go (OpR.plain rfl (r_loadp ti_53 rfl (by simp only [loaded, mpc, mpn, if_true, ler, tks, tkz, tkn, dps, dpz, cap, nap, apn, lnc, lnn, zad, Nat.reduceAdd, adz]; rfl) (nb rfl))) ?_
          refine AL.go (OpR.plain rfl (r_move rfl (nb rfl) (by rintro _ ⟨⟩))) ?_
          refine AL.go (OpR.plain rfl (r_storeN ti_53 rfl rfl rfl rfl rfl (nb rfl) (by simp only [putAt, tks, tkz, tkn, dps, dpz, cap, nap, apn, lnc, lnn, zad, Nat.reduceAdd, adz]; rfl) (by rintro _ ⟨⟩))) ?_
          refine AL.go (OpR.plain rfl (r_assign rfl (nb rfl) (by rintro _ ⟨⟩))) ?_
          refine AL.go (OpR.plain rfl (r_assign rfl (nb rfl) (by rintro _ ⟨⟩; rfl))) ?_
          refine AL.nil ?_
          refine thenN ?_
          refine AW.ret ?_
          refine fin_id (.inr rfl) (ends_of rfl (.cell ti_53 rfl rfl (by simp only [loaded, if_true, ler, tks, tkz, tkn, dps, dpz, cap, nap, apn, lnc, lnn, zad, Nat.reduceAdd, adz]; rfl) (.tmp rfl (.tmp rfl .nil)))) ?_ .nil rfl rfl rfl rfl
          simp only [retA]
          first | (exfalso; omega) | (refine A.le_of_eq ?_; simp only [oneM, hB]; by_cases he : iI = s.size <;> first | (exfalso; omega) | (simp_all [errFix]; done) | (simp_all [errFix]; omega))
      · have h13n := h13; try simp only [dtt, dff, bqi, bqf, bni, bnf, nt1, nf1, nt0, nf0, ne_eq, ilt, ile, Int.toNat_natCast] at h13n
        refine AW.seq ?_
        refine AW.region ?_
        refine AL.go (OpR.plain rfl (r_move rfl (nb rfl) (by rintro _ ⟨⟩))) ?_
        refine AL.go (OpR.plain rfl (r_move rfl (nb rfl) (by rintro _ ⟨⟩))) ?_
        refine AL.go (OpR.plain rfl (r_byteD un_9 rfl rfl (nb rfl) (by first | omega | (simp only [Int.toNat_natCast] at *; omega)) (by first | omega | (simp only [Int.toNat_natCast] at *; omega)))) ?_
        refine AL.go (OpR.plain rfl (r_callFun (digit_s _) en_40 rfl rfl rfl rfl (.cons (A.le_refl _) .nil) rfl (nb rfl))) ?_
        refine AL.go (OpR.plain rfl (r_assign rfl (nb rfl) (by rintro _ ⟨⟩))) ?_
        refine AL.nil ?_
        refine thenN ?_
        refine AW.condb rfl (fun h15 => ?_) (fun h15 => ?_)
        · have h15n := h15; try simp only [dtt, dff, bqi, bqf, bni, bnf, nt1, nf1, nt0, nf0, ne_eq, ilt, ile, Int.toNat_natCast] at h15n
          refine AW.region ?_
          refine AL.go (OpR.plain rfl (r_move rfl (nb rfl) (by rintro _ ⟨⟩))) ?_
          refine AL.go (OpR.plain rfl (r_move rfl (nb rfl) (by rintro _ ⟨⟩))) ?_
          refine AL.go (OpR.plain rfl (r_callFun (number_s s _ hs (by omega)) en_41 rfl rfl rfl rfl (.cons (A.le_refl _) (.cons (A.le_refl _) .nil)) rfl (nb rfl))) ?_
          refine AL.go (OpR.plain rfl (r_move rfl (nb rfl) (by rintro _ ⟨⟩))) ?_
          refine AL.go (OpR.plain rfl (r_extract rfl rfl (nb rfl))) ?_
          refine AL.go (OpR.plain rfl (r_extract rfl rfl (nb rfl))) ?_
          refine AL.go (OpR.plain rfl (r_extract rfl rfl (nb rfl))) ?_
          refine AL.go (OpR.plain rfl (r_storeN ti_53 rfl rfl rfl rfl rfl (nb rfl) (by simp only [putAt, tks, tkz, tkn, dps, dpz, cap, nap, apn, lnc, lnn, zad, Nat.reduceAdd, adz]; rfl) (by rintro _ ⟨⟩))) ?_
          refine AL.go (OpR.plain rfl (r_assign rfl (nb rfl) (by rintro _ ⟨⟩))) ?_
          refine AL.go (OpR.plain rfl (r_assign rfl (nb rfl) (by rintro _ ⟨⟩))) ?_
          refine AL.nil ?_
          refine inbN ?_
          refine thenN ?_
          refine AW.seq ?_
          refine AW.seq ?_
          refine AW.region ?_
          refine AL.go (OpR.plain rfl (r_move rfl (nb rfl) (by rintro _ ⟨⟩))) ?_
          refine AL.go (OpR.plain rfl (r_bin rfl rfl (nb rfl) rfl (run_int_neq _ _ _))) ?_
          refine AL.nil ?_
          refine thenN ?_
          refine AW.condb rfl (fun h16 => ?_) (fun h16 => ?_)
          · have h16n := h16; try simp only [dtt, dff, bqi, bqf, bni, bnf, nt1, nf1, nt0, nf0, ne_eq, ilt, ile, Int.toNat_natCast] at h16n
            refine AW.seq ?_
            refine AW.region ?_
            refine AL.go (OpR.plain rfl (r_build pl_53 rfl zc_53 rfl rfl (by simp only [fillC, putAt, gez, ges, if_true, and_self, Nat.reduceLeDiff, true_and, tks, tkz, tkn, dps, dpz, cap, nap, apn, lnc, lnn, zad, Nat.reduceAdd, adz]; rfl) (nb rfl))) ?_
            refine AL.go (OpR.plain rfl (r_move rfl (nb rfl) (by rintro _ ⟨⟩))) ?_
            refine AL.go (OpR.plain rfl (r_move rfl (nb rfl) (by rintro _ ⟨⟩))) ?_
            refine AL.go (OpR.plain rfl (r_storeN ti_53 rfl rfl rfl rfl rfl (nb rfl) (by simp only [putAt, tks, tkz, tkn, dps, dpz, cap, nap, apn, lnc, lnn, zad, Nat.reduceAdd, adz]; rfl) (by rintro _ ⟨⟩))) ?_
            refine AL.go (OpR.plain rfl (r_assign rfl (nb rfl) (by rintro _ ⟨⟩))) ?_
            refine AL.go (OpR.plain rfl (r_assign rfl (nb rfl) (by rintro _ ⟨⟩))) ?_
            refine AL.nil ?_
            refine thenN ?_
            refine AW.ret ?_
            refine thenR ?_
            refine fin_id (.inr rfl) (ends_of rfl (.cell ti_53 rfl rfl (by simp only [loaded, if_true, ler, tks, tkz, tkn, dps, dpz, cap, nap, apn, lnc, lnn, zad, Nat.reduceAdd, adz]; rfl) (.tmp rfl (.tmp rfl .nil)))) ?_ .nil rfl rfl rfl rfl
            simp only [retA]
            first | (exfalso; omega) | (refine A.le_of_eq ?_; simp only [oneM, hB]; by_cases he : iI = s.size <;> first | (exfalso; omega) | (simp_all [errFix]; done) | (simp_all [errFix]; omega))
          · have h16n := h16; try simp only [dtt, dff, bqi, bqf, bni, bnf, nt1, nf1, nt0, nf0, ne_eq, ilt, ile, Int.toNat_natCast] at h16n
            refine AW.skip ?_
            refine thenN ?_
            refine AW.seq ?_
            refine AW.region ?_
            first | refine AL.go (OpR.plain rfl (r_load ti_53 rfl rfl (by simp only [loaded, mpc, mpn, if_true, ler, tks, tkz, tkn, dps, dpz, cap, nap, apn, lnc, lnn, zad, Nat.reduceAdd, adz]; rfl) (nb rfl))) ?_ | refine AL.go (OpR.plain rfl (r_loadp ti_53 rfl (by simp only [loaded, mpc, mpn, if_true, ler, tks, tkz, tkn, dps, dpz, cap, nap, apn, lnc, lnn, zad, Nat.reduceAdd, adz]; rfl) (nb rfl))) ?_
            refine AL.go (OpR.plain rfl (r_move rfl (nb rfl) (by rintro _ ⟨⟩))) ?_
            refine AL.go (OpR.plain rfl (r_storeN ti_53 rfl rfl rfl rfl rfl (nb rfl) (by simp only [putAt, tks, tkz, tkn, dps, dpz, cap, nap, apn, lnc, lnn, zad, Nat.reduceAdd, adz]; rfl) (by rintro _ ⟨⟩))) ?_
            refine AL.go (OpR.plain rfl (r_assign rfl (nb rfl) (by rintro _ ⟨⟩))) ?_
            refine AL.go (OpR.plain rfl (r_assign rfl (nb rfl) (by rintro _ ⟨⟩; rfl))) ?_
            refine AL.nil ?_
            refine thenN ?_
            refine AW.ret ?_
            refine fin_id (.inr rfl) (ends_of rfl (.cell ti_53 rfl rfl (by simp only [loaded, if_true, ler, tks, tkz, tkn, dps, dpz, cap, nap, apn, lnc, lnn, zad, Nat.reduceAdd, adz]; rfl) (.tmp rfl (.tmp rfl .nil)))) ?_ .nil rfl rfl rfl rfl
            simp only [retA]
            first | (exfalso; omega) | (refine A.le_of_eq ?_; simp only [oneM, hB]; by_cases he : iI = s.size <;> first | (exfalso; omega) | (simp_all [errFix]; done) | (simp_all [errFix]; omega))
        · have h15n := h15; try simp only [dtt, dff, bqi, bqf, bni, bnf, nt1, nf1, nt0, nf0, ne_eq, ilt, ile, Int.toNat_natCast] at h15n
          refine AW.seq ?_
          refine AW.region ?_
          refine AL.go (OpR.plain rfl (r_move rfl (nb rfl) (by rintro _ ⟨⟩))) ?_
          refine AL.go (OpR.plain rfl (r_move rfl (nb rfl) (by rintro _ ⟨⟩))) ?_
          refine AL.go (OpR.plain rfl (r_byteD un_9 rfl rfl (nb rfl) (by first | omega | (simp only [Int.toNat_natCast] at *; omega)) (by first | omega | (simp only [Int.toNat_natCast] at *; omega)))) ?_
          refine AL.go (OpR.plain rfl (r_bin rfl rfl (nb rfl) rfl (run_int_eql _ _ _))) ?_
          refine AL.go (OpR.plain rfl (r_assign rfl (nb rfl) (by rintro _ ⟨⟩))) ?_
          refine AL.nil ?_
          refine thenN ?_
          refine AW.condb rfl (fun h17 => ?_) (fun h17 => ?_)
          · have h17n := h17; try simp only [dtt, dff, bqi, bqf, bni, bnf, nt1, nf1, nt0, nf0, ne_eq, ilt, ile, Int.toNat_natCast] at h17n
            refine AW.region ?_
            refine AL.go (OpR.plain rfl (r_move rfl (nb rfl) (by rintro _ ⟨⟩))) ?_
            refine AL.go (OpR.plain rfl (r_move rfl (nb rfl) (by rintro _ ⟨⟩))) ?_
            refine AL.go (OpR.plain rfl (r_callFun (ptext_s s _ hs (by omega)) en_42 rfl rfl rfl rfl (.cons (A.le_refl _) (.cons (A.le_refl _) .nil)) rfl (nb rfl))) ?_
            refine AL.go (OpR.plain rfl (r_move rfl (nb rfl) (by rintro _ ⟨⟩))) ?_
            refine AL.go (OpR.plain rfl (r_extract rfl rfl (nb rfl))) ?_
            refine AL.go (OpR.plain rfl (r_extract rfl rfl (nb rfl))) ?_
            refine AL.go (OpR.plain rfl (r_extract rfl rfl (nb rfl))) ?_
            refine AL.go (OpR.plain rfl (r_storeN ti_53 rfl rfl rfl rfl rfl (nb rfl) (by simp only [putAt, tks, tkz, tkn, dps, dpz, cap, nap, apn, lnc, lnn, zad, Nat.reduceAdd, adz]; rfl) (by rintro _ ⟨⟩))) ?_
            refine AL.go (OpR.plain rfl (r_assign rfl (nb rfl) (by rintro _ ⟨⟩))) ?_
            refine AL.go (OpR.plain rfl (r_assign rfl (nb rfl) (by rintro _ ⟨⟩))) ?_
            refine AL.nil ?_
            refine inbN ?_
            refine thenN ?_
            refine AW.seq ?_
            refine AW.seq ?_
            refine AW.region ?_
            refine AL.go (OpR.plain rfl (r_move rfl (nb rfl) (by rintro _ ⟨⟩))) ?_
            refine AL.go (OpR.plain rfl (r_bin rfl rfl (nb rfl) rfl (run_int_neq _ _ _))) ?_
            refine AL.nil ?_
            refine thenN ?_
            refine AW.condb rfl (fun h18 => ?_) (fun h18 => ?_)
            · have h18n := h18; try simp only [dtt, dff, bqi, bqf, bni, bnf, nt1, nf1, nt0, nf0, ne_eq, ilt, ile, Int.toNat_natCast] at h18n
              refine AW.seq ?_
              refine AW.region ?_
              refine AL.go (OpR.plain rfl (r_build pl_53 rfl zc_53 rfl rfl (by simp only [fillC, putAt, gez, ges, if_true, and_self, Nat.reduceLeDiff, true_and, tks, tkz, tkn, dps, dpz, cap, nap, apn, lnc, lnn, zad, Nat.reduceAdd, adz]; rfl) (nb rfl))) ?_
              refine AL.go (OpR.plain rfl (r_move rfl (nb rfl) (by rintro _ ⟨⟩))) ?_
              refine AL.go (OpR.plain rfl (r_move rfl (nb rfl) (by rintro _ ⟨⟩))) ?_
              refine AL.go (OpR.plain rfl (r_storeN ti_53 rfl rfl rfl rfl rfl (nb rfl) (by simp only [putAt, tks, tkz, tkn, dps, dpz, cap, nap, apn, lnc, lnn, zad, Nat.reduceAdd, adz]; rfl) (by rintro _ ⟨⟩))) ?_
              refine AL.go (OpR.plain rfl (r_assign rfl (nb rfl) (by rintro _ ⟨⟩))) ?_
              refine AL.go (OpR.plain rfl (r_assign rfl (nb rfl) (by rintro _ ⟨⟩))) ?_
              refine AL.nil ?_
              refine thenN ?_
              refine AW.ret ?_
              refine thenR ?_
              refine fin_id (.inr rfl) (ends_of rfl (.cell ti_53 rfl rfl (by simp only [loaded, if_true, ler, tks, tkz, tkn, dps, dpz, cap, nap, apn, lnc, lnn, zad, Nat.reduceAdd, adz]; rfl) (.tmp rfl (.tmp rfl .nil)))) ?_ .nil rfl rfl rfl rfl
              simp only [retA]
              first | (exfalso; omega) | (refine A.le_of_eq ?_; simp only [oneM, hB]; by_cases he : iI = s.size <;> first | (exfalso; omega) | (simp_all [errFix]; done) | (simp_all [errFix]; omega))
            · have h18n := h18; try simp only [dtt, dff, bqi, bqf, bni, bnf, nt1, nf1, nt0, nf0, ne_eq, ilt, ile, Int.toNat_natCast] at h18n
              refine AW.skip ?_
              refine thenN ?_
              refine AW.seq ?_
              refine AW.region ?_
              first | refine AL.go (OpR.plain rfl (r_load ti_53 rfl rfl (by simp only [loaded, mpc, mpn, if_true, ler, tks, tkz, tkn, dps, dpz, cap, nap, apn, lnc, lnn, zad, Nat.reduceAdd, adz]; rfl) (nb rfl))) ?_ | refine AL.go (OpR.plain rfl (r_loadp ti_53 rfl (by simp only [loaded, mpc, mpn, if_true, ler, tks, tkz, tkn, dps, dpz, cap, nap, apn, lnc, lnn, zad, Nat.reduceAdd, adz]; rfl) (nb rfl))) ?_
              refine AL.go (OpR.plain rfl (r_move rfl (nb rfl) (by rintro _ ⟨⟩))) ?_
              refine AL.go (OpR.plain rfl (r_storeN ti_53 rfl rfl rfl rfl rfl (nb rfl) (by simp only [putAt, tks, tkz, tkn, dps, dpz, cap, nap, apn, lnc, lnn, zad, Nat.reduceAdd, adz]; rfl) (by rintro _ ⟨⟩))) ?_
              refine AL.go (OpR.plain rfl (r_assign rfl (nb rfl) (by rintro _ ⟨⟩))) ?_
              refine AL.go (OpR.plain rfl (r_assign rfl (nb rfl) (by rintro _ ⟨⟩; rfl))) ?_
              refine AL.nil ?_
              refine thenN ?_
              refine AW.ret ?_
              refine fin_id (.inr rfl) (ends_of rfl (.cell ti_53 rfl rfl (by simp only [loaded, if_true, ler, tks, tkz, tkn, dps, dpz, cap, nap, apn, lnc, lnn, zad, Nat.reduceAdd, adz]; rfl) (.tmp rfl (.tmp rfl .nil)))) ?_ .nil rfl rfl rfl rfl
              simp only [retA]
              first | (exfalso; omega) | (refine A.le_of_eq ?_; simp only [oneM, hB]; by_cases he : iI = s.size <;> first | (exfalso; omega) | (simp_all [errFix]; done) | (simp_all [errFix]; omega))
          · have h17n := h17; try simp only [dtt, dff, bqi, bqf, bni, bnf, nt1, nf1, nt0, nf0, ne_eq, ilt, ile, Int.toNat_natCast] at h17n
            refine AW.seq ?_
            refine AW.region ?_
            refine AL.go (OpR.plain rfl (r_move rfl (nb rfl) (by rintro _ ⟨⟩))) ?_
            refine AL.go (OpR.plain rfl (r_bin rfl rfl (nb rfl) rfl (run_str_neq _ _))) ?_
            refine AL.go (OpR.plain rfl (r_assign rfl (nb rfl) (by rintro _ ⟨⟩))) ?_
            refine AL.nil ?_
            refine thenN ?_
            refine AW.condb rfl (fun h19 => ?_) (fun h19 => ?_)
            · have h19n := h19; try simp only [dtt, dff, bqi, bqf, bni, bnf, nt1, nf1, nt0, nf0, ne_eq, ilt, ile, Int.toNat_natCast] at h19n
              refine AW.seq ?_
              refine AW.region ?_
              refine AL.go (OpR.plain rfl (r_move rfl (nb rfl) (by rintro _ ⟨⟩))) ?_
              refine AL.go (OpR.plain rfl (r_move rfl (nb rfl) (by rintro _ ⟨⟩))) ?_
              refine AL.go (OpR.plain rfl (r_build pl_53 rfl zc_53 rfl rfl (by simp only [fillC, putAt, gez, ges, if_true, and_self, Nat.reduceLeDiff, true_and, tks, tkz, tkn, dps, dpz, cap, nap, apn, lnc, lnn, zad, Nat.reduceAdd, adz]; rfl) (nb rfl))) ?_
              refine AL.go (OpR.plain rfl (r_move rfl (nb rfl) (by rintro _ ⟨⟩))) ?_
              refine AL.go (OpR.plain rfl (r_move rfl (nb rfl) (by rintro _ ⟨⟩))) ?_
              refine AL.go (OpR.plain rfl (r_lens un_9 rfl (nb rfl))) ?_
              refine AL.go (OpR.plain rfl (r_add rfl rfl (nb rfl) (by first | omega | (simp only [Int.toNat_natCast] at *; omega)) (by first | omega | (simp only [Int.toNat_natCast] at *; omega)))) ?_
              refine AL.go (OpR.plain rfl (r_storeN ti_53 rfl rfl rfl rfl rfl (nb rfl) (by simp only [putAt, tks, tkz, tkn, dps, dpz, cap, nap, apn, lnc, lnn, zad, Nat.reduceAdd, adz]; rfl) (by rintro _ ⟨⟩))) ?_
              refine AL.go (OpR.plain rfl (r_assign rfl (nb rfl) (by rintro _ ⟨⟩))) ?_
              refine AL.go (OpR.plain rfl (r_assign rfl (nb rfl) (by rintro _ ⟨⟩; rfl))) ?_
              refine AL.nil ?_
              refine thenN ?_
              refine AW.ret ?_
              refine inbR ?_
              refine thenR ?_
              refine fin_id (.inr rfl) (ends_of rfl (.cell ti_53 rfl rfl (by simp only [loaded, if_true, ler, tks, tkz, tkn, dps, dpz, cap, nap, apn, lnc, lnn, zad, Nat.reduceAdd, adz]; rfl) (.tmp rfl (.tmp rfl .nil)))) ?_ .nil rfl rfl rfl rfl
              simp only [retA]
              first | (exfalso; omega) | (refine A.le_of_eq ?_; simp only [oneM, hB]; by_cases he : iI = s.size <;> first | (exfalso; omega) | (simp_all [errFix]; done) | (simp_all [errFix]; omega))
            · have h19n := h19; try simp only [dtt, dff, bqi, bqf, bni, bnf, nt1, nf1, nt0, nf0, ne_eq, ilt, ile, Int.toNat_natCast] at h19n
              refine AW.region ?_
              refine AL.go (OpR.plain rfl (r_assign rfl (nb rfl) (by rintro _ ⟨⟩; rfl))) ?_
              refine AL.nil ?_
              refine inbN ?_
              refine thenN ?_
              refine AW.seq ?_
              refine AW.seq ?_
              refine AW.region ?_
              refine AL.go (OpR.plain rfl (r_move rfl (nb rfl) (by rintro _ ⟨⟩))) ?_
              refine AL.go (OpR.plain rfl (r_bin rfl rfl (nb rfl) rfl (run_int_neq _ _ _))) ?_
              refine AL.nil ?_
              refine thenN ?_
              refine AW.condb rfl (fun h20 => ?_) (fun h20 => ?_)
              · have h20n := h20; try simp only [dtt, dff, bqi, bqf, bni, bnf, nt1, nf1, nt0, nf0, ne_eq, ilt, ile, Int.toNat_natCast] at h20n
                refine AW.seq ?_
                refine AW.region ?_
                refine AL.go (OpR.plain rfl (r_build pl_53 rfl zc_53 rfl rfl (by simp only [fillC, putAt, gez, ges, if_true, and_self, Nat.reduceLeDiff, true_and, tks, tkz, tkn, dps, dpz, cap, nap, apn, lnc, lnn, zad, Nat.reduceAdd, adz]; rfl) (nb rfl))) ?_
                refine AL.go (OpR.plain rfl (r_move rfl (nb rfl) (by rintro _ ⟨⟩))) ?_
                refine AL.go (OpR.plain rfl (r_move rfl (nb rfl) (by rintro _ ⟨⟩))) ?_
                refine AL.go (OpR.plain rfl (r_storeN ti_53 rfl rfl rfl rfl rfl (nb rfl) (by simp only [putAt, tks, tkz, tkn, dps, dpz, cap, nap, apn, lnc, lnn, zad, Nat.reduceAdd, adz]; rfl) (by rintro _ ⟨⟩))) ?_
                refine AL.go (OpR.plain rfl (r_assign rfl (nb rfl) (by rintro _ ⟨⟩))) ?_
                refine AL.go (OpR.plain rfl (r_assign rfl (nb rfl) (by rintro _ ⟨⟩))) ?_
                refine AL.nil ?_
                refine thenN ?_
                refine AW.ret ?_
                refine thenR ?_
                refine fin_id (.inr rfl) (ends_of rfl (.cell ti_53 rfl rfl (by simp only [loaded, if_true, ler, tks, tkz, tkn, dps, dpz, cap, nap, apn, lnc, lnn, zad, Nat.reduceAdd, adz]; rfl) (.tmp rfl (.tmp rfl .nil)))) ?_ .nil rfl rfl rfl rfl
                simp only [retA]
                first | (exfalso; omega) | (refine A.le_of_eq ?_; simp only [oneM, hB]; by_cases he : iI = s.size <;> first | (exfalso; omega) | (simp_all [errFix]; done) | (simp_all [errFix]; omega))
              · have h20n := h20; try simp only [dtt, dff, bqi, bqf, bni, bnf, nt1, nf1, nt0, nf0, ne_eq, ilt, ile, Int.toNat_natCast] at h20n
                refine AW.skip ?_
                refine thenN ?_
                refine AW.seq ?_
                refine AW.region ?_
                first | refine AL.go (OpR.plain rfl (r_load ti_53 rfl rfl (by simp only [loaded, mpc, mpn, if_true, ler, tks, tkz, tkn, dps, dpz, cap, nap, apn, lnc, lnn, zad, Nat.reduceAdd, adz]; rfl) (nb rfl))) ?_ | refine AL.go (OpR.plain rfl (r_loadp ti_53 rfl (by simp only [loaded, mpc, mpn, if_true, ler, tks, tkz, tkn, dps, dpz, cap, nap, apn, lnc, lnn, zad, Nat.reduceAdd, adz]; rfl) (nb rfl))) ?_
                refine AL.go (OpR.plain rfl (r_move rfl (nb rfl) (by rintro _ ⟨⟩))) ?_
                refine AL.go (OpR.plain rfl (r_storeN ti_53 rfl rfl rfl rfl rfl (nb rfl) (by simp only [putAt, tks, tkz, tkn, dps, dpz, cap, nap, apn, lnc, lnn, zad, Nat.reduceAdd, adz]; rfl) (by rintro _ ⟨⟩))) ?_
                refine AL.go (OpR.plain rfl (r_assign rfl (nb rfl) (by rintro _ ⟨⟩))) ?_
                refine AL.go (OpR.plain rfl (r_assign rfl (nb rfl) (by rintro _ ⟨⟩; rfl))) ?_
                refine AL.nil ?_
                refine thenN ?_
                refine AW.ret ?_
                refine fin_id (.inr rfl) (ends_of rfl (.cell ti_53 rfl rfl (by simp only [loaded, if_true, ler, tks, tkz, tkn, dps, dpz, cap, nap, apn, lnc, lnn, zad, Nat.reduceAdd, adz]; rfl) (.tmp rfl (.tmp rfl .nil)))) ?_ .nil rfl rfl rfl rfl
                simp only [retA]
                first | (exfalso; omega) | (refine A.le_of_eq ?_; simp only [oneM, hB]; by_cases he : iI = s.size <;> first | (exfalso; omega) | (simp_all [errFix]; done) | (simp_all [errFix]; omega))

set_option maxHeartbeats 4000000 in
theorem rone_s (s : ByteArray) (a : Nat) (hs : s.size ≤ 100000) (ha : a ≤ s.size) : Am.Spec Try.prog 35 [A.val (.string s), A.i64 (a : Int)] [] (resA (oneM s a)) [] := by
  refine spec_ofN (n := 161) Try.func35 rfl rfl (nb rfl) ?_
  show AW _ _ (⟨[(0, A.val (.string s)), (1, A.i64 (a : Int))], [], []⟩ : St) _
  refine AW.seq ?_
  refine AW.region ?_
  refine AL.go (OpR.plain rfl (r_alloc 101 ti_53 zc_53 rfl rfl (nb rfl))) ?_
  refine AL.go (OpR.plain rfl (r_assign rfl (nb rfl) (by rintro _ ⟨⟩; rfl))) ?_
  refine AL.go (OpR.plain rfl (r_assign rfl (nb rfl) (by rintro _ ⟨⟩; rfl))) ?_
  refine AL.nil ?_
  refine thenN ?_
  refine AW.seq ?_
  refine AW.seq ?_
  refine AW.region ?_
  refine AL.go (OpR.plain rfl (r_move rfl (nb rfl) (by rintro _ ⟨⟩))) ?_
  refine AL.go (OpR.plain rfl (r_bin rfl rfl (nb rfl) rfl (run_int_lss _ _ _))) ?_
  refine AL.nil ?_
  refine thenN ?_
  refine AW.condb rfl (fun h1 => ?_) (fun h1 => ?_)
  · exact absurd (of_decide_eq_true h1) (by omega)
  · have h1n := h1; try simp only [dtt, dff, bqi, bqf, bni, bnf, nt1, nf1, nt0, nf0, ne_eq, ilt, ile, Int.toNat_natCast] at h1n
    refine AW.skip ?_
    refine thenN ?_
    refine AW.seq ?_
    refine AW.seq ?_
    refine AW.region ?_
    refine AL.go (OpR.plain rfl (r_move rfl (nb rfl) (by rintro _ ⟨⟩))) ?_
    refine AL.go (OpR.plain rfl (r_move rfl (nb rfl) (by rintro _ ⟨⟩))) ?_
    refine AL.go (OpR.plain rfl (r_lens un_9 rfl (nb rfl))) ?_
    refine AL.go (OpR.plain rfl (r_bin rfl rfl (nb rfl) rfl (run_int_gtr _ _ _))) ?_
    refine AL.nil ?_
    refine thenN ?_
    refine AW.condb rfl (fun h2 => ?_) (fun h2 => ?_)
    · exact absurd (of_decide_eq_true h2) (by omega)
    · have h2n := h2; try simp only [dtt, dff, bqi, bqf, bni, bnf, nt1, nf1, nt0, nf0, ne_eq, ilt, ile, Int.toNat_natCast] at h2n
      refine AW.skip ?_
      refine thenN ?_
      refine AW.seq ?_
      refine AW.region ?_
      refine AL.go (OpR.plain rfl (r_move rfl (nb rfl) (by rintro _ ⟨⟩))) ?_
      refine AL.go (OpR.plain rfl (r_assign rfl (nb rfl) (by rintro _ ⟨⟩))) ?_
      refine AL.nil ?_
      refine thenN ?_
      refine AW.seq ?_
      refine AW.block ?_
      refine AW.loop (ι := { x : Nat // ScI isBlank s a x }) (fun x => ⟨[(0, A.val (.string s)), (1, A.i64 (a : Int)), (4, A.c (.ref 101 0)), (7, A.i64 (x.1 : Int))], [(101, .box [.d (.v (.int .i64 0)), .d (.v (.string { data := #[] })), .d (.v (.int .i64 0)), .d (.v (.int .i64 0))])], []⟩) (fun x => s.size - x.1) ⟨a, ⟨ler _, ha, rfl⟩⟩ (weakens_id (.cons rfl (A.le_of_eq (by first | rfl | (simp [A.ren, C.ren, renOf, lk]; done) | (simp [A.ren, C.ren, renOf, lk]; omega) | omega)) (.cons rfl (A.le_of_eq (by first | rfl | (simp [A.ren, C.ren, renOf, lk]; done) | (simp [A.ren, C.ren, renOf, lk]; omega) | omega)) (.cons rfl (A.le_of_eq (by first | rfl | (simp [A.ren, C.ren, renOf, lk]; done) | (simp [A.ren, C.ren, renOf, lk]; omega) | omega)) (.cons rfl (A.le_of_eq (by first | rfl | (simp [A.ren, C.ren, renOf, lk]; done) | (simp [A.ren, C.ren, renOf, lk]; omega) | omega)) .nil)))) (.cons rfl (Ob.le_refl _) .nil) rfl rfl rfl rfl) ?_
      rintro ⟨iI, hI⟩
      have hIa := hI.lo; have hIb := hI.hi
      show AW _ _ (⟨[(0, A.val (.string s)), (1, A.i64 (a : Int)), (4, A.c (.ref 101 0)), (7, A.i64 (iI : Int))], [(101, .box [.d (.v (.int .i64 0)), .d (.v (.string { data := #[] })), .d (.v (.int .i64 0)), .d (.v (.int .i64 0))])], []⟩ : St) _
      refine AW.seq ?_
      refine AW.seq ?_
      refine AW.region ?_
      refine AL.go (OpR.plain rfl (r_move rfl (nb rfl) (by rintro _ ⟨⟩))) ?_
      refine AL.go (OpR.plain rfl (r_move rfl (nb rfl) (by rintro _ ⟨⟩))) ?_
      refine AL.go (OpR.plain rfl (r_lens un_9 rfl (nb rfl))) ?_
      refine AL.go (OpR.plain rfl (r_bin rfl rfl (nb rfl) rfl (run_int_lss _ _ _))) ?_
      refine AL.go (OpR.plain rfl (r_move rfl (nb rfl) (by rintro _ ⟨⟩))) ?_
      refine AL.ifb (t := 25) rfl (fun h3 => ?_) (fun h3 => ?_)
      · have h3n := h3; try simp only [dtt, dff, bqi, bqf, bni, bnf, nt1, nf1, nt0, nf0, ne_eq, ilt, ile, Int.toNat_natCast] at h3n
        refine AL.go (OpR.onb rfl rfl (nb rfl) rfl (h3) (r_move rfl (nb rfl) (by rintro _ ⟨⟩))) ?_
        refine AL.go (OpR.onb rfl rfl (nb rfl) rfl (h3) (r_move rfl (nb rfl) (by rintro _ ⟨⟩))) ?_
        refine AL.go (OpR.onb rfl rfl (nb rfl) rfl (h3) (r_byteD un_9 rfl rfl (nb rfl) (by first | omega | (simp only [Int.toNat_natCast] at *; omega)) (by first | omega | (simp only [Int.toNat_natCast] at *; omega)))) ?_
        refine AL.go (OpR.onb rfl rfl (nb rfl) rfl (h3) (r_callFun (rblank_s _) en_49 rfl rfl rfl rfl (.cons (A.le_refl _) .nil) rfl (nb rfl))) ?_
        refine AL.go (OpR.plain rfl (r_pickTb rfl (h3) rfl (nb rfl) (by rintro _ ⟨⟩))) ?_
        refine AL.nil ?_
        refine thenN ?_
        refine AW.condb rfl (fun h4 => ?_) (fun h4 => ?_)
        · have h4n := h4; try simp only [dtt, dff, bqi, bqf, bni, bnf, nt1, nf1, nt0, nf0, ne_eq, ilt, ile, Int.toNat_natCast] at h4n
          refine AW.skip ?_
          refine thenN ?_
          refine AW.block ?_
          refine AW.region ?_
          refine AL.go (OpR.plain rfl (r_move rfl (nb rfl) (by rintro _ ⟨⟩))) ?_
          refine AL.go (OpR.plain rfl (r_add rfl rfl (nb rfl) (by first | omega | (simp only [Int.toNat_natCast] at *; omega)) (by first | omega | (simp only [Int.toNat_natCast] at *; omega)))) ?_
          refine AL.go (OpR.plain rfl (r_assign rfl (nb rfl) (by rintro _ ⟨⟩))) ?_
          refine AL.nil ?_
          refine inbN ?_
          refine thenN ?_
          refine ⟨⟨iI + 1, hI.next (by omega) (by assumption)⟩, by simp only; omega, weakens_id (.cons rfl (A.le_of_eq (by first | rfl | (simp [A.ren, C.ren, renOf, lk]; done) | (simp [A.ren, C.ren, renOf, lk]; omega) | omega)) (.cons rfl (A.le_of_eq (by first | rfl | (simp [A.ren, C.ren, renOf, lk]; done) | (simp [A.ren, C.ren, renOf, lk]; omega) | omega)) (.cons rfl (A.le_of_eq (by first | rfl | (simp [A.ren, C.ren, renOf, lk]; done) | (simp [A.ren, C.ren, renOf, lk]; omega) | omega)) (.cons rfl (A.le_of_eq (by first | rfl | (simp [A.ren, C.ren, renOf, lk]; done) | (simp [A.ren, C.ren, renOf, lk]; omega) | omega)) .nil)))) (.cons rfl (Ob.le_refl _) .nil) rfl rfl rfl rfl⟩
        · have h4n := h4; try simp only [dtt, dff, bqi, bqf, bni, bnf, nt1, nf1, nt0, nf0, ne_eq, ilt, ile, Int.toNat_natCast] at h4n
          refine AW.exit ?_
          refine thenX ?_
          refine thenX ?_
          refine inbE ?_
          refine thenN ?_
          refine AW.seq ?_
          refine AW.seq ?_
          refine AW.region ?_
          have hB : runOf isBlank s a = iI := hI.stop (by first | (left; omega) | (right; assumption))
          have hsz := signM_size s iI
          refine AL.go (OpR.plain rfl (r_move rfl (nb rfl) (by rintro _ ⟨⟩))) ?_
          refine AL.go (OpR.plain rfl (r_move rfl (nb rfl) (by rintro _ ⟨⟩))) ?_
          refine AL.go (OpR.plain rfl (r_lens un_9 rfl (nb rfl))) ?_
          refine AL.go (OpR.plain rfl (r_bin rfl rfl (nb rfl) rfl (run_int_eql _ _ _))) ?_
          refine AL.nil ?_
          refine thenN ?_
          refine AW.condb rfl (fun h5 => ?_) (fun h5 => ?_)
          · have h5n := h5; try simp only [dtt, dff, bqi, bqf, bni, bnf, nt1, nf1, nt0, nf0, ne_eq, ilt, ile, Int.toNat_natCast] at h5n
            refine AW.seq ?_
            refine AW.region ?_
            refine AL.go (OpR.plain rfl (r_move rfl (nb rfl) (by rintro _ ⟨⟩))) ?_
            refine AL.go (OpR.plain rfl (r_build pl_53 rfl zc_53 rfl rfl (by simp only [fillC, putAt, gez, ges, if_true, and_self, Nat.reduceLeDiff, true_and, tks, tkz, tkn, dps, dpz, cap, nap, apn, lnc, lnn, zad, Nat.reduceAdd, adz]; rfl) (nb rfl))) ?_
            refine AL.go (OpR.plain rfl (r_move rfl (nb rfl) (by rintro _ ⟨⟩))) ?_
            refine AL.go (OpR.plain rfl (r_storeN ti_53 rfl rfl rfl rfl rfl (nb rfl) (by simp only [putAt, tks, tkz, tkn, dps, dpz, cap, nap, apn, lnc, lnn, zad, Nat.reduceAdd, adz]; rfl) (by rintro _ ⟨⟩))) ?_
            refine AL.go (OpR.plain rfl (r_assign rfl (nb rfl) (by rintro _ ⟨⟩))) ?_
            refine AL.go (OpR.plain rfl (r_assign rfl (nb rfl) (by rintro _ ⟨⟩; rfl))) ?_
            refine AL.nil ?_
            refine thenN ?_
            refine AW.ret ?_
            refine thenR ?_
            refine fin_id (.inr rfl) (ends_of rfl (.cell ti_53 rfl rfl (by simp only [loaded, if_true, ler, tks, tkz, tkn, dps, dpz, cap, nap, apn, lnc, lnn, zad, Nat.reduceAdd, adz]; rfl) (.tmp rfl (.tmp rfl .nil)))) ?_ .nil rfl rfl rfl rfl
            simp only [retA]
            first | (exfalso; omega) | (refine A.le_of_eq ?_; simp only [oneM, hB]; by_cases he : iI = s.size <;> first | (exfalso; omega) | (simp_all; done) | (simp only [if_neg he, textM_fix]; simp_all; done) | (rw [if_neg he, if_pos (by assumption), hM]; first | (rw [if_pos (by omega)]; done) | (rw [if_neg (by omega)]; simp_all; done)) | (rw [if_neg he, if_neg (by simp_all), if_pos (by assumption), hM]; cases hq : numAt s (kK - iI) iI 0 <;> first | (simp_all; done) | (dsimp only; rw [if_neg (by rintro ⟨hx, _⟩; omega)]; simp_all; done) | (simp_all; omega)))
          · have h5n := h5; try simp only [dtt, dff, bqi, bqf, bni, bnf, nt1, nf1, nt0, nf0, ne_eq, ilt, ile, Int.toNat_natCast] at h5n
            refine AW.skip ?_
            refine thenN ?_
            refine AW.seq ?_
            refine AW.region ?_
            refine AL.go (OpR.plain rfl (r_move rfl (nb rfl) (by rintro _ ⟨⟩))) ?_
            refine AL.go (OpR.plain rfl (r_assign rfl (nb rfl) (by rintro _ ⟨⟩))) ?_
            refine AL.nil ?_
            refine thenN ?_
            refine AW.seq ?_
            refine AW.seq ?_
            refine AW.region ?_
            refine AL.go (OpR.plain rfl (r_move rfl (nb rfl) (by rintro _ ⟨⟩))) ?_
            refine AL.go (OpR.plain rfl (r_move rfl (nb rfl) (by rintro _ ⟨⟩))) ?_
            refine AL.go (OpR.plain rfl (r_byteD un_9 rfl rfl (nb rfl) (by first | omega | (simp only [Int.toNat_natCast] at *; omega)) (by first | omega | (simp only [Int.toNat_natCast] at *; omega)))) ?_
            refine AL.go (OpR.plain rfl (r_callFun (rletter_s _) en_50 rfl rfl rfl rfl (.cons (A.le_refl _) .nil) rfl (nb rfl))) ?_
            refine AL.nil ?_
            refine thenN ?_
            refine AW.condb rfl (fun h6 => ?_) (fun h6 => ?_)
            · have h6n := h6; try simp only [dtt, dff, bqi, bqf, bni, bnf, nt1, nf1, nt0, nf0, ne_eq, ilt, ile, Int.toNat_natCast] at h6n
              refine AW.seq ?_
              refine AW.block ?_
              refine AW.loop (ι := { x : Nat // ScI nmc s iI x }) (fun x => ⟨[(0, A.val (.string s)), (1, A.i64 (a : Int)), (4, A.c (.ref 101 0)), (7, A.i64 (iI : Int)), (8, A.i64 (x.1 : Int))], [(101, .box [.d (.v (.int .i64 0)), .d (.v (.string { data := #[] })), .d (.v (.int .i64 0)), .d (.v (.int .i64 0))])], []⟩) (fun x => s.size - x.1) ⟨iI, ⟨ler _, by omega, rfl⟩⟩ (weakens_id (.cons rfl (A.le_of_eq (by first | rfl | (simp [A.ren, C.ren, renOf, lk]; done) | (simp [A.ren, C.ren, renOf, lk]; omega) | omega)) (.cons rfl (A.le_of_eq (by first | rfl | (simp [A.ren, C.ren, renOf, lk]; done) | (simp [A.ren, C.ren, renOf, lk]; omega) | omega)) (.cons rfl (A.le_of_eq (by first | rfl | (simp [A.ren, C.ren, renOf, lk]; done) | (simp [A.ren, C.ren, renOf, lk]; omega) | omega)) (.cons rfl (A.le_of_eq (by first | rfl | (simp [A.ren, C.ren, renOf, lk]; done) | (simp [A.ren, C.ren, renOf, lk]; omega) | omega)) (.cons rfl (A.le_of_eq (by first | rfl | (simp [A.ren, C.ren, renOf, lk]; done) | (simp [A.ren, C.ren, renOf, lk]; omega) | omega)) .nil))))) (.cons rfl (Ob.le_refl _) .nil) rfl rfl rfl rfl) ?_
              rintro ⟨kK, hJ⟩
              have hJa := hJ.lo; have hJb := hJ.hi
              show AW _ _ (⟨[(0, A.val (.string s)), (1, A.i64 (a : Int)), (4, A.c (.ref 101 0)), (7, A.i64 (iI : Int)), (8, A.i64 (kK : Int))], [(101, .box [.d (.v (.int .i64 0)), .d (.v (.string { data := #[] })), .d (.v (.int .i64 0)), .d (.v (.int .i64 0))])], []⟩ : St) _
              refine AW.seq ?_
              refine AW.seq ?_
              refine AW.region ?_
              refine AL.go (OpR.plain rfl (r_move rfl (nb rfl) (by rintro _ ⟨⟩))) ?_
              refine AL.go (OpR.plain rfl (r_move rfl (nb rfl) (by rintro _ ⟨⟩))) ?_
              refine AL.go (OpR.plain rfl (r_lens un_9 rfl (nb rfl))) ?_
              refine AL.go (OpR.plain rfl (r_bin rfl rfl (nb rfl) rfl (run_int_lss _ _ _))) ?_
              refine AL.go (OpR.plain rfl (r_move rfl (nb rfl) (by rintro _ ⟨⟩))) ?_
              refine AL.ifb (t := 49) rfl (fun h7 => ?_) (fun h7 => ?_)
              · have h7n := h7; try simp only [dtt, dff, bqi, bqf, bni, bnf, nt1, nf1, nt0, nf0, ne_eq, ilt, ile, Int.toNat_natCast] at h7n
                refine AL.go (OpR.onb rfl rfl (nb rfl) rfl (h7) (r_move rfl (nb rfl) (by rintro _ ⟨⟩))) ?_
                refine AL.go (OpR.onb rfl rfl (nb rfl) rfl (h7) (r_move rfl (nb rfl) (by rintro _ ⟨⟩))) ?_
                refine AL.go (OpR.onb rfl rfl (nb rfl) rfl (h7) (r_byteD un_9 rfl rfl (nb rfl) (by first | omega | (simp only [Int.toNat_natCast] at *; omega)) (by first | omega | (simp only [Int.toNat_natCast] at *; omega)))) ?_
                refine AL.go (OpR.onb rfl rfl (nb rfl) rfl (h7) (r_callFun (rletter_s _) en_50 rfl rfl rfl rfl (.cons (A.le_refl _) .nil) rfl (nb rfl))) ?_
                refine AL.go (OpR.onb rfl rfl (nb rfl) rfl (h7) (r_move rfl (nb rfl) (by rintro _ ⟨⟩))) ?_
                refine AL.ifb (t := 54) rfl (fun h8 => ?_) (fun h8 => ?_)
                · have h8n := h8; try simp only [dtt, dff, bqi, bqf, bni, bnf, nt1, nf1, nt0, nf0, ne_eq, ilt, ile, Int.toNat_natCast] at h8n
                  refine AL.go (.off rfl rfl (nb rfl) rfl (by rw [h8]; decide) rfl (nb rfl)) ?_
                  refine AL.go (.off rfl rfl (nb rfl) rfl (by rw [h8]; decide) rfl (nb rfl)) ?_
                  refine AL.go (.off rfl rfl (nb rfl) rfl (by rw [h8]; decide) rfl (nb rfl)) ?_
                  refine AL.go (.off rfl rfl (nb rfl) rfl (by rw [h8]; decide) rfl (nb rfl)) ?_
                  refine AL.go (OpR.onb rfl rfl (nb rfl) rfl (h7) (r_pickTb rfl (h8) rfl (nb rfl) (by rintro _ ⟨⟩; rfl))) ?_
                  refine AL.go (OpR.plain rfl (r_pickTb rfl (h7) rfl (nb rfl) (by rintro _ ⟨⟩))) ?_
                  refine AL.nil ?_
                  refine thenN ?_
                  refine AW.condT rfl (rfl) ?_
                  refine AW.skip ?_
                  refine thenN ?_
                  refine AW.block ?_
                  refine AW.region ?_
                  refine AL.go (OpR.plain rfl (r_move rfl (nb rfl) (by rintro _ ⟨⟩))) ?_
                  refine AL.go (OpR.plain rfl (r_add rfl rfl (nb rfl) (by first | omega | (simp only [Int.toNat_natCast] at *; omega)) (by first | omega | (simp only [Int.toNat_natCast] at *; omega)))) ?_
                  refine AL.go (OpR.plain rfl (r_assign rfl (nb rfl) (by rintro _ ⟨⟩))) ?_
                  refine AL.nil ?_
                  refine inbN ?_
                  refine thenN ?_
                  refine ⟨⟨kK + 1, hJ.next (by omega) (by simp only [nmc, Bool.or_eq_true]; first | (left; assumption) | (right; assumption))⟩, by simp only; omega, weakens_id (.cons rfl (A.le_of_eq (by first | rfl | (simp [A.ren, C.ren, renOf, lk]; done) | (simp [A.ren, C.ren, renOf, lk]; omega) | omega)) (.cons rfl (A.le_of_eq (by first | rfl | (simp [A.ren, C.ren, renOf, lk]; done) | (simp [A.ren, C.ren, renOf, lk]; omega) | omega)) (.cons rfl (A.le_of_eq (by first | rfl | (simp [A.ren, C.ren, renOf, lk]; done) | (simp [A.ren, C.ren, renOf, lk]; omega) | omega)) (.cons rfl (A.le_of_eq (by first | rfl | (simp [A.ren, C.ren, renOf, lk]; done) | (simp [A.ren, C.ren, renOf, lk]; omega) | omega)) (.cons rfl (A.le_of_eq (by first | rfl | (simp [A.ren, C.ren, renOf, lk]; done) | (simp [A.ren, C.ren, renOf, lk]; omega) | omega)) .nil))))) (.cons rfl (Ob.le_refl _) .nil) rfl rfl rfl rfl⟩
                · have h8n := h8; try simp only [dtt, dff, bqi, bqf, bni, bnf, nt1, nf1, nt0, nf0, ne_eq, ilt, ile, Int.toNat_natCast] at h8n
                  refine AL.go (OpR.onb rfl rfl (nb rfl) rfl (h8) (r_move rfl (nb rfl) (by rintro _ ⟨⟩))) ?_
                  refine AL.go (OpR.onb rfl rfl (nb rfl) rfl (h8) (r_move rfl (nb rfl) (by rintro _ ⟨⟩))) ?_
                  refine AL.go (OpR.onb rfl rfl (nb rfl) rfl (h8) (r_byteD un_9 rfl rfl (nb rfl) (by first | omega | (simp only [Int.toNat_natCast] at *; omega)) (by first | omega | (simp only [Int.toNat_natCast] at *; omega)))) ?_
                  refine AL.go (OpR.onb rfl rfl (nb rfl) rfl (h8) (r_callFun (rdigit_s _) en_51 rfl rfl rfl rfl (.cons (A.le_refl _) .nil) rfl (nb rfl))) ?_
                  refine AL.go (OpR.onb rfl rfl (nb rfl) rfl (h7) (r_pickFb rfl (h8) rfl (nb rfl) (by rintro _ ⟨⟩))) ?_
                  refine AL.go (OpR.plain rfl (r_pickTb rfl (h7) rfl (nb rfl) (by rintro _ ⟨⟩))) ?_
                  refine AL.nil ?_
                  refine thenN ?_
                  refine AW.condb rfl (fun h9 => ?_) (fun h9 => ?_)
                  · have h9n := h9; try simp only [dtt, dff, bqi, bqf, bni, bnf, nt1, nf1, nt0, nf0, ne_eq, ilt, ile, Int.toNat_natCast] at h9n
                    refine AW.skip ?_
                    refine thenN ?_
                    refine AW.block ?_
                    refine AW.region ?_
                    refine AL.go (OpR.plain rfl (r_move rfl (nb rfl) (by rintro _ ⟨⟩))) ?_
                    refine AL.go (OpR.plain rfl (r_add rfl rfl (nb rfl) (by first | omega | (simp only [Int.toNat_natCast] at *; omega)) (by first | omega | (simp only [Int.toNat_natCast] at *; omega)))) ?_
                    refine AL.go (OpR.plain rfl (r_assign rfl (nb rfl) (by rintro _ ⟨⟩))) ?_
                    refine AL.nil ?_
                    refine inbN ?_
                    refine thenN ?_
                    refine ⟨⟨kK + 1, hJ.next (by omega) (by simp only [nmc, Bool.or_eq_true]; first | (left; assumption) | (right; assumption))⟩, by simp only; omega, weakens_id (.cons rfl (A.le_of_eq (by first | rfl | (simp [A.ren, C.ren, renOf, lk]; done) | (simp [A.ren, C.ren, renOf, lk]; omega) | omega)) (.cons rfl (A.le_of_eq (by first | rfl | (simp [A.ren, C.ren, renOf, lk]; done) | (simp [A.ren, C.ren, renOf, lk]; omega) | omega)) (.cons rfl (A.le_of_eq (by first | rfl | (simp [A.ren, C.ren, renOf, lk]; done) | (simp [A.ren, C.ren, renOf, lk]; omega) | omega)) (.cons rfl (A.le_of_eq (by first | rfl | (simp [A.ren, C.ren, renOf, lk]; done) | (simp [A.ren, C.ren, renOf, lk]; omega) | omega)) (.cons rfl (A.le_of_eq (by first | rfl | (simp [A.ren, C.ren, renOf, lk]; done) | (simp [A.ren, C.ren, renOf, lk]; omega) | omega)) .nil))))) (.cons rfl (Ob.le_refl _) .nil) rfl rfl rfl rfl⟩
                  · have h9n := h9; try simp only [dtt, dff, bqi, bqf, bni, bnf, nt1, nf1, nt0, nf0, ne_eq, ilt, ile, Int.toNat_natCast] at h9n
                    refine AW.exit ?_
                    refine thenX ?_
                    refine thenX ?_
                    refine inbE ?_
                    refine thenN ?_
                    refine AW.seq ?_
                    refine AW.seq ?_
                    refine AW.region ?_
                    have hN : runOf nmc s iI = kK := hJ.stop (by simp only [nmc, Bool.or_eq_false_iff]; first | (left; omega) | (right; exact ⟨by assumption, by assumption⟩))
                    have hM := nameM_fix hN (by omega) a
                    refine AL.go (OpR.plain rfl (r_move rfl (nb rfl) (by rintro _ ⟨⟩))) ?_
                    refine AL.go (OpR.plain rfl (r_move rfl (nb rfl) (by rintro _ ⟨⟩))) ?_
                    refine AL.go (OpR.plain rfl (r_sub rfl rfl (nb rfl) (by first | omega | (simp only [Int.toNat_natCast] at *; omega)) (by first | omega | (simp only [Int.toNat_natCast] at *; omega)))) ?_
                    refine AL.go (OpR.plain rfl (r_bin rfl rfl (nb rfl) rfl (run_int_gtr _ _ _))) ?_
                    refine AL.nil ?_
                    refine thenN ?_
                    refine AW.condb rfl (fun h10 => ?_) (fun h10 => ?_)
                    · have h10n := h10; try simp only [dtt, dff, bqi, bqf, bni, bnf, nt1, nf1, nt0, nf0, ne_eq, ilt, ile, Int.toNat_natCast] at h10n
                      refine AW.seq ?_
                      refine AW.region ?_
                      refine AL.go (OpR.plain rfl (r_build pl_53 rfl zc_53 rfl rfl (by simp only [fillC, putAt, gez, ges, if_true, and_self, Nat.reduceLeDiff, true_and, tks, tkz, tkn, dps, dpz, cap, nap, apn, lnc, lnn, zad, Nat.reduceAdd, adz]; rfl) (nb rfl))) ?_
                      refine AL.go (OpR.plain rfl (r_move rfl (nb rfl) (by rintro _ ⟨⟩))) ?_
                      refine AL.go (OpR.plain rfl (r_storeN ti_53 rfl rfl rfl rfl rfl (nb rfl) (by simp only [putAt, tks, tkz, tkn, dps, dpz, cap, nap, apn, lnc, lnn, zad, Nat.reduceAdd, adz]; rfl) (by rintro _ ⟨⟩))) ?_
                      refine AL.go (OpR.plain rfl (r_assign rfl (nb rfl) (by rintro _ ⟨⟩))) ?_
                      refine AL.go (OpR.plain rfl (r_assign rfl (nb rfl) (by rintro _ ⟨⟩; rfl))) ?_
                      refine AL.nil ?_
                      refine thenN ?_
                      refine AW.ret ?_
                      refine thenR ?_
                      refine thenR ?_
                      refine fin_id (.inr rfl) (ends_of rfl (.cell ti_53 rfl rfl (by simp only [loaded, if_true, ler, tks, tkz, tkn, dps, dpz, cap, nap, apn, lnc, lnn, zad, Nat.reduceAdd, adz]; rfl) (.tmp rfl (.tmp rfl .nil)))) ?_ .nil rfl rfl rfl rfl
                      simp only [retA]
                      first | (exfalso; omega) | (refine A.le_of_eq ?_; simp only [oneM, hB]; by_cases he : iI = s.size <;> first | (exfalso; omega) | (simp_all; done) | (simp only [if_neg he, textM_fix]; simp_all; done) | (rw [if_neg he, if_pos (by assumption), hM]; first | (rw [if_pos (by omega)]; done) | (rw [if_neg (by omega)]; simp_all; done)) | (rw [if_neg he, if_neg (by simp_all), if_pos (by assumption), hM]; cases hq : numAt s (kK - iI) iI 0 <;> first | (simp_all; done) | (dsimp only; rw [if_neg (by rintro ⟨hx, _⟩; omega)]; simp_all; done) | (simp_all; omega)))
                    · have h10n := h10; try simp only [dtt, dff, bqi, bqf, bni, bnf, nt1, nf1, nt0, nf0, ne_eq, ilt, ile, Int.toNat_natCast] at h10n
                      refine AW.skip ?_
                      refine thenN ?_
                      refine AW.seq ?_
                      refine AW.seq ?_
                      refine AW.region ?_
                      refine AL.go (OpR.plain rfl (r_move rfl (nb rfl) (by rintro _ ⟨⟩))) ?_
                      refine AL.go (OpR.plain rfl (r_move rfl (nb rfl) (by rintro _ ⟨⟩))) ?_
                      refine AL.go (OpR.plain rfl (r_move rfl (nb rfl) (by rintro _ ⟨⟩))) ?_
                      refine AL.go (OpR.plain rfl (r_substr un_9 rfl rfl rfl (nb rfl) (by first | omega | (simp only [Int.toNat_natCast] at *; omega)) (by first | omega | (simp only [Int.toNat_natCast] at *; omega)) (by first | omega | (simp only [Int.toNat_natCast] at *; omega)))) ?_
                      refine AL.go (OpR.plain rfl (r_callFun (rword_s _) en_52 rfl rfl rfl rfl (.cons (A.le_refl _) .nil) rfl (nb rfl))) ?_
                      refine AL.nil ?_
                      refine thenN ?_
                      refine AW.condb rfl (fun h11 => ?_) (fun h11 => ?_)
                      · have h11n := h11; try simp only [dtt, dff, bqi, bqf, bni, bnf, nt1, nf1, nt0, nf0, ne_eq, ilt, ile, Int.toNat_natCast] at h11n
                        refine AW.seq ?_
                        refine AW.region ?_
                        refine AL.go (OpR.plain rfl (r_move rfl (nb rfl) (by rintro _ ⟨⟩))) ?_
                        refine AL.go (OpR.plain rfl (r_move rfl (nb rfl) (by rintro _ ⟨⟩))) ?_
                        refine AL.go (OpR.plain rfl (r_move rfl (nb rfl) (by rintro _ ⟨⟩))) ?_
                        refine AL.go (OpR.plain rfl (r_substr un_9 rfl rfl rfl (nb rfl) (by first | omega | (simp only [Int.toNat_natCast] at *; omega)) (by first | omega | (simp only [Int.toNat_natCast] at *; omega)) (by first | omega | (simp only [Int.toNat_natCast] at *; omega)))) ?_
                        refine AL.go (OpR.plain rfl (r_move rfl (nb rfl) (by rintro _ ⟨⟩))) ?_
                        refine AL.go (OpR.plain rfl (r_build pl_53 rfl zc_53 rfl rfl (by simp only [fillC, putAt, gez, ges, if_true, and_self, Nat.reduceLeDiff, true_and, tks, tkz, tkn, dps, dpz, cap, nap, apn, lnc, lnn, zad, Nat.reduceAdd, adz]; rfl) (nb rfl))) ?_
                        refine AL.go (OpR.plain rfl (r_move rfl (nb rfl) (by rintro _ ⟨⟩))) ?_
                        refine AL.go (OpR.plain rfl (r_storeN ti_53 rfl rfl rfl rfl rfl (nb rfl) (by simp only [putAt, tks, tkz, tkn, dps, dpz, cap, nap, apn, lnc, lnn, zad, Nat.reduceAdd, adz]; rfl) (by rintro _ ⟨⟩))) ?_
                        refine AL.go (OpR.plain rfl (r_assign rfl (nb rfl) (by rintro _ ⟨⟩))) ?_
                        refine AL.go (OpR.plain rfl (r_assign rfl (nb rfl) (by rintro _ ⟨⟩; rfl))) ?_
                        refine AL.nil ?_
                        refine thenN ?_
                        refine AW.ret ?_
                        refine thenR ?_
                        refine thenR ?_
                        refine fin_id (.inr rfl) (ends_of rfl (.cell ti_53 rfl rfl (by simp only [loaded, if_true, ler, tks, tkz, tkn, dps, dpz, cap, nap, apn, lnc, lnn, zad, Nat.reduceAdd, adz]; rfl) (.tmp rfl (.tmp rfl .nil)))) ?_ .nil rfl rfl rfl rfl
                        simp only [retA]
                        first | (exfalso; omega) | (refine A.le_of_eq ?_; simp only [oneM, hB]; by_cases he : iI = s.size <;> first | (exfalso; omega) | (simp_all; done) | (simp only [if_neg he, textM_fix]; simp_all; done) | (rw [if_neg he, if_pos (by assumption), hM]; first | (rw [if_pos (by omega)]; done) | (rw [if_neg (by omega)]; simp_all; done)) | (rw [if_neg he, if_neg (by simp_all), if_pos (by assumption), hM]; cases hq : numAt s (kK - iI) iI 0 <;> first | (simp_all; done) | (dsimp only; rw [if_neg (by rintro ⟨hx, _⟩; omega)]; simp_all; done) | (simp_all; omega)))
                      · have h11n := h11; try simp only [dtt, dff, bqi, bqf, bni, bnf, nt1, nf1, nt0, nf0, ne_eq, ilt, ile, Int.toNat_natCast] at h11n
                        refine AW.skip ?_
                        refine thenN ?_
                        refine AW.seq ?_
                        refine AW.region ?_
                        refine AL.go (OpR.plain rfl (r_move rfl (nb rfl) (by rintro _ ⟨⟩))) ?_
                        refine AL.go (OpR.plain rfl (r_move rfl (nb rfl) (by rintro _ ⟨⟩))) ?_
                        refine AL.go (OpR.plain rfl (r_move rfl (nb rfl) (by rintro _ ⟨⟩))) ?_
                        refine AL.go (OpR.plain rfl (r_substr un_9 rfl rfl rfl (nb rfl) (by first | omega | (simp only [Int.toNat_natCast] at *; omega)) (by first | omega | (simp only [Int.toNat_natCast] at *; omega)) (by first | omega | (simp only [Int.toNat_natCast] at *; omega)))) ?_
                        refine AL.go (OpR.plain rfl (r_move rfl (nb rfl) (by rintro _ ⟨⟩))) ?_
                        refine AL.go (OpR.plain rfl (r_build pl_53 rfl zc_53 rfl rfl (by simp only [fillC, putAt, gez, ges, if_true, and_self, Nat.reduceLeDiff, true_and, tks, tkz, tkn, dps, dpz, cap, nap, apn, lnc, lnn, zad, Nat.reduceAdd, adz]; rfl) (nb rfl))) ?_
                        refine AL.go (OpR.plain rfl (r_move rfl (nb rfl) (by rintro _ ⟨⟩))) ?_
                        refine AL.go (OpR.plain rfl (r_storeN ti_53 rfl rfl rfl rfl rfl (nb rfl) (by simp only [putAt, tks, tkz, tkn, dps, dpz, cap, nap, apn, lnc, lnn, zad, Nat.reduceAdd, adz]; rfl) (by rintro _ ⟨⟩))) ?_
                        refine AL.go (OpR.plain rfl (r_assign rfl (nb rfl) (by rintro _ ⟨⟩))) ?_
                        refine AL.go (OpR.plain rfl (r_assign rfl (nb rfl) (by rintro _ ⟨⟩; rfl))) ?_
                        refine AL.nil ?_
                        refine thenN ?_
                        refine AW.ret ?_
                        refine thenR ?_
                        refine fin_id (.inr rfl) (ends_of rfl (.cell ti_53 rfl rfl (by simp only [loaded, if_true, ler, tks, tkz, tkn, dps, dpz, cap, nap, apn, lnc, lnn, zad, Nat.reduceAdd, adz]; rfl) (.tmp rfl (.tmp rfl .nil)))) ?_ .nil rfl rfl rfl rfl
                        simp only [retA]
                        first | (exfalso; omega) | (refine A.le_of_eq ?_; simp only [oneM, hB]; by_cases he : iI = s.size <;> first | (exfalso; omega) | (simp_all; done) | (simp only [if_neg he, textM_fix]; simp_all; done) | (rw [if_neg he, if_pos (by assumption), hM]; first | (rw [if_pos (by omega)]; done) | (rw [if_neg (by omega)]; simp_all; done)) | (rw [if_neg he, if_neg (by simp_all), if_pos (by assumption), hM]; cases hq : numAt s (kK - iI) iI 0 <;> first | (simp_all; done) | (dsimp only; rw [if_neg (by rintro ⟨hx, _⟩; omega)]; simp_all; done) | (simp_all; omega)))
              · have h7n := h7; try simp only [dtt, dff, bqi, bqf, bni, bnf, nt1, nf1, nt0, nf0, ne_eq, ilt, ile, Int.toNat_natCast] at h7n
                refine AL.go (.off rfl rfl (nb rfl) rfl (by rw [h7]; decide) rfl (nb rfl)) ?_
                refine AL.go (.off rfl rfl (nb rfl) rfl (by rw [h7]; decide) rfl (nb rfl)) ?_
                refine AL.go (.off rfl rfl (nb rfl) rfl (by rw [h7]; decide) rfl (nb rfl)) ?_
                refine AL.go (.off rfl rfl (nb rfl) rfl (by rw [h7]; decide) rfl (nb rfl)) ?_
                refine AL.go (.off rfl rfl (nb rfl) rfl (by rw [h7]; decide) rfl (nb rfl)) ?_
                refine AL.go (.offU rfl rfl (nb rfl) rfl rfl (nb rfl)) ?_
                refine AL.go (.offU rfl rfl (nb rfl) rfl rfl (nb rfl)) ?_
                refine AL.go (.offU rfl rfl (nb rfl) rfl rfl (nb rfl)) ?_
                refine AL.go (.offU rfl rfl (nb rfl) rfl rfl (nb rfl)) ?_
                refine AL.go (.off rfl rfl (nb rfl) rfl (by rw [h7]; decide) rfl (nb rfl)) ?_
                refine AL.go (OpR.plain rfl (r_pickFb rfl (h7) rfl (nb rfl) (by rintro _ ⟨⟩; rfl))) ?_
                refine AL.nil ?_
                refine thenN ?_
                refine AW.condF rfl (rfl) ?_
                refine AW.exit ?_
                refine thenX ?_
                refine thenX ?_
                refine inbE ?_
                refine thenN ?_
                refine AW.seq ?_
                refine AW.seq ?_
                refine AW.region ?_
                have hN : runOf nmc s iI = kK := hJ.stop (by simp only [nmc, Bool.or_eq_false_iff]; first | (left; omega) | (right; exact ⟨by assumption, by assumption⟩))
                have hM := nameM_fix hN (by omega) a
                refine AL.go (OpR.plain rfl (r_move rfl (nb rfl) (by rintro _ ⟨⟩))) ?_
                refine AL.go (OpR.plain rfl (r_move rfl (nb rfl) (by rintro _ ⟨⟩))) ?_
                refine AL.go (OpR.plain rfl (r_sub rfl rfl (nb rfl) (by first | omega | (simp only [Int.toNat_natCast] at *; omega)) (by first | omega | (simp only [Int.toNat_natCast] at *; omega)))) ?_
                refine AL.go (OpR.plain rfl (r_bin rfl rfl (nb rfl) rfl (run_int_gtr _ _ _))) ?_
                refine AL.nil ?_
                refine thenN ?_
                refine AW.condb rfl (fun h12 => ?_) (fun h12 => ?_)
                · have h12n := h12; try simp only [dtt, dff, bqi, bqf, bni, bnf, nt1, nf1, nt0, nf0, ne_eq, ilt, ile, Int.toNat_natCast] at h12n
                  refine AW.seq ?_
                  refine AW.region ?_
                  refine AL.go (OpR.plain rfl (r_build pl_53 rfl zc_53 rfl rfl (by simp only [fillC, putAt, gez, ges, if_true, and_self, Nat.reduceLeDiff, true_and, tks, tkz, tkn, dps, dpz, cap, nap, apn, lnc, lnn, zad, Nat.reduceAdd, adz]; rfl) (nb rfl))) ?_
                  refine AL.go (OpR.plain rfl (r_move rfl (nb rfl) (by rintro _ ⟨⟩))) ?_
                  refine AL.go (OpR.plain rfl (r_storeN ti_53 rfl rfl rfl rfl rfl (nb rfl) (by simp only [putAt, tks, tkz, tkn, dps, dpz, cap, nap, apn, lnc, lnn, zad, Nat.reduceAdd, adz]; rfl) (by rintro _ ⟨⟩))) ?_
                  refine AL.go (OpR.plain rfl (r_assign rfl (nb rfl) (by rintro _ ⟨⟩))) ?_
                  refine AL.go (OpR.plain rfl (r_assign rfl (nb rfl) (by rintro _ ⟨⟩; rfl))) ?_
                  refine AL.nil ?_
                  refine thenN ?_
                  refine AW.ret ?_
                  refine thenR ?_
                  refine thenR ?_
                  refine fin_id (.inr rfl) (ends_of rfl (.cell ti_53 rfl rfl (by simp only [loaded, if_true, ler, tks, tkz, tkn, dps, dpz, cap, nap, apn, lnc, lnn, zad, Nat.reduceAdd, adz]; rfl) (.tmp rfl (.tmp rfl .nil)))) ?_ .nil rfl rfl rfl rfl
                  simp only [retA]
                  first | (exfalso; omega) | (refine A.le_of_eq ?_; simp only [oneM, hB]; by_cases he : iI = s.size <;> first | (exfalso; omega) | (simp_all; done) | (simp only [if_neg he, textM_fix]; simp_all; done) | (rw [if_neg he, if_pos (by assumption), hM]; first | (rw [if_pos (by omega)]; done) | (rw [if_neg (by omega)]; simp_all; done)) | (rw [if_neg he, if_neg (by simp_all), if_pos (by assumption), hM]; cases hq : numAt s (kK - iI) iI 0 <;> first | (simp_all; done) | (dsimp only; rw [if_neg (by rintro ⟨hx, _⟩; omega)]; simp_all; done) | (simp_all; omega)))
                · have h12n := h12; try simp only [dtt, dff, bqi, bqf, bni, bnf, nt1, nf1, nt0, nf0, ne_eq, ilt, ile, Int.toNat_natCast] at h12n
                  refine AW.skip ?_
                  refine thenN ?_
                  refine AW.seq ?_
                  refine AW.seq ?_
                  refine AW.region ?_
                  refine AL.go (OpR.plain rfl (r_move rfl (nb rfl) (by rintro _ ⟨⟩))) ?_
                  refine AL.go (OpR.plain rfl (r_move rfl (nb rfl) (by rintro _ ⟨⟩))) ?_
                  refine AL.go (OpR.plain rfl (r_move rfl (nb rfl) (by rintro _ ⟨⟩))) ?_
                  refine AL.go (OpR.plain rfl (r_substr un_9 rfl rfl rfl (nb rfl) (by first | omega | (simp only [Int.toNat_natCast] at *; omega)) (by first | omega | (simp only [Int.toNat_natCast] at *; omega)) (by first | omega | (simp only [Int.toNat_natCast] at *; omega)))) ?_
                  refine AL.go (OpR.plain rfl (r_callFun (rword_s _) en_52 rfl rfl rfl rfl (.cons (A.le_refl _) .nil) rfl (nb rfl))) ?_
                  refine AL.nil ?_
                  refine thenN ?_
                  refine AW.condb rfl (fun h13 => ?_) (fun h13 => ?_)
                  · have h13n := h13; try simp only [dtt, dff, bqi, bqf, bni, bnf, nt1, nf1, nt0, nf0, ne_eq, ilt, ile, Int.toNat_natCast] at h13n
                    refine AW.seq ?_
                    refine AW.region ?_
                    refine AL.go (OpR.plain rfl (r_move rfl (nb rfl) (by rintro _ ⟨⟩))) ?_
                    refine AL.go (OpR.plain rfl (r_move rfl (nb rfl) (by rintro _ ⟨⟩))) ?_
                    refine AL.go (OpR.plain rfl (r_move rfl (nb rfl) (by rintro _ ⟨⟩))) ?_
                    refine AL.go (OpR.plain rfl (r_substr un_9 rfl rfl rfl (nb rfl) (by first | omega | (simp only [Int.toNat_natCast] at *; omega)) (by first | omega | (simp only [Int.toNat_natCast] at *; omega)) (by first | omega | (simp only [Int.toNat_natCast] at *; omega)))) ?_
                    refine AL.go (OpR.plain rfl (r_move rfl (nb rfl) (by rintro _ ⟨⟩))) ?_
                    refine AL.go (OpR.plain rfl (r_build pl_53 rfl zc_53 rfl rfl (by simp only [fillC, putAt, gez, ges, if_true, and_self, Nat.reduceLeDiff, true_and, tks, tkz, tkn, dps, dpz, cap, nap, apn, lnc, lnn, zad, Nat.reduceAdd, adz]; rfl) (nb rfl))) ?_
                    refine AL.go (OpR.plain rfl (r_move rfl (nb rfl) (by rintro _ ⟨⟩))) ?_
                    refine AL.go (OpR.plain rfl (r_storeN ti_53 rfl rfl rfl rfl rfl (nb rfl) (by simp only [putAt, tks, tkz, tkn, dps, dpz, cap, nap, apn, lnc, lnn, zad, Nat.reduceAdd, adz]; rfl) (by rintro _ ⟨⟩))) ?_
                    refine AL.go (OpR.plain rfl (r_assign rfl (nb rfl) (by rintro _ ⟨⟩))) ?_
                    refine AL.go (OpR.plain rfl (r_assign rfl (nb rfl) (by rintro _ ⟨⟩; rfl))) ?_
                    refine AL.nil ?_
                    refine thenN ?_
                    refine AW.ret ?_
                    refine thenR ?_
                    refine thenR ?_
                    refine fin_id (.inr rfl) (ends_of rfl (.cell ti_53 rfl rfl (by simp only [loaded, if_true, ler, tks, tkz, tkn, dps, dpz, cap, nap, apn, lnc, lnn, zad, Nat.reduceAdd, adz]; rfl) (.tmp rfl (.tmp rfl .nil)))) ?_ .nil rfl rfl rfl rfl
                    simp only [retA]
                    first | (exfalso; omega) | (refine A.le_of_eq ?_; simp only [oneM, hB]; by_cases he : iI = s.size <;> first | (exfalso; omega) | (simp_all; done) | (simp only [if_neg he, textM_fix]; simp_all; done) | (rw [if_neg he, if_pos (by assumption), hM]; first | (rw [if_pos (by omega)]; done) | (rw [if_neg (by omega)]; simp_all; done)) | (rw [if_neg he, if_neg (by simp_all), if_pos (by assumption), hM]; cases hq : numAt s (kK - iI) iI 0 <;> first | (simp_all; done) | (dsimp only; rw [if_neg (by rintro ⟨hx, _⟩; omega)]; simp_all; done) | (simp_all; omega)))
                  · have h13n := h13; try simp only [dtt, dff, bqi, bqf, bni, bnf, nt1, nf1, nt0, nf0, ne_eq, ilt, ile, Int.toNat_natCast] at h13n
                    refine AW.skip ?_
                    refine thenN ?_
                    refine AW.seq ?_
                    refine AW.region ?_
                    refine AL.go (OpR.plain rfl (r_move rfl (nb rfl) (by rintro _ ⟨⟩))) ?_
                    refine AL.go (OpR.plain rfl (r_move rfl (nb rfl) (by rintro _ ⟨⟩))) ?_
                    refine AL.go (OpR.plain rfl (r_move rfl (nb rfl) (by rintro _ ⟨⟩))) ?_
                    refine AL.go (OpR.plain rfl (r_substr un_9 rfl rfl rfl (nb rfl) (by first | omega | (simp only [Int.toNat_natCast] at *; omega)) (by first | omega | (simp only [Int.toNat_natCast] at *; omega)) (by first | omega | (simp only [Int.toNat_natCast] at *; omega)))) ?_
                    refine AL.go (OpR.plain rfl (r_move rfl (nb rfl) (by rintro _ ⟨⟩))) ?_
                    refine AL.go (OpR.plain rfl (r_build pl_53 rfl zc_53 rfl rfl (by simp only [fillC, putAt, gez, ges, if_true, and_self, Nat.reduceLeDiff, true_and, tks, tkz, tkn, dps, dpz, cap, nap, apn, lnc, lnn, zad, Nat.reduceAdd, adz]; rfl) (nb rfl))) ?_
                    refine AL.go (OpR.plain rfl (r_move rfl (nb rfl) (by rintro _ ⟨⟩))) ?_
                    refine AL.go (OpR.plain rfl (r_storeN ti_53 rfl rfl rfl rfl rfl (nb rfl) (by simp only [putAt, tks, tkz, tkn, dps, dpz, cap, nap, apn, lnc, lnn, zad, Nat.reduceAdd, adz]; rfl) (by rintro _ ⟨⟩))) ?_
                    refine AL.go (OpR.plain rfl (r_assign rfl (nb rfl) (by rintro _ ⟨⟩))) ?_
                    refine AL.go (OpR.plain rfl (r_assign rfl (nb rfl) (by rintro _ ⟨⟩; rfl))) ?_
                    refine AL.nil ?_
                    refine thenN ?_
                    refine AW.ret ?_
                    refine thenR ?_
                    refine fin_id (.inr rfl) (ends_of rfl (.cell ti_53 rfl rfl (by simp only [loaded, if_true, ler, tks, tkz, tkn, dps, dpz, cap, nap, apn, lnc, lnn, zad, Nat.reduceAdd, adz]; rfl) (.tmp rfl (.tmp rfl .nil)))) ?_ .nil rfl rfl rfl rfl
                    simp only [retA]
                    first | (exfalso; omega) | (refine A.le_of_eq ?_; simp only [oneM, hB]; by_cases he : iI = s.size <;> first | (exfalso; omega) | (simp_all; done) | (simp only [if_neg he, textM_fix]; simp_all; done) | (rw [if_neg he, if_pos (by assumption), hM]; first | (rw [if_pos (by omega)]; done) | (rw [if_neg (by omega)]; simp_all; done)) | (rw [if_neg he, if_neg (by simp_all), if_pos (by assumption), hM]; cases hq : numAt s (kK - iI) iI 0 <;> first | (simp_all; done) | (dsimp only; rw [if_neg (by rintro ⟨hx, _⟩; omega)]; simp_all; done) | (simp_all; omega)))
            · have h6n := h6; try simp only [dtt, dff, bqi, bqf, bni, bnf, nt1, nf1, nt0, nf0, ne_eq, ilt, ile, Int.toNat_natCast] at h6n
              refine AW.skip ?_
              refine thenN ?_
              refine AW.seq ?_
              refine AW.seq ?_
              refine AW.region ?_
              refine AL.go (OpR.plain rfl (r_move rfl (nb rfl) (by rintro _ ⟨⟩))) ?_
              refine AL.go (OpR.plain rfl (r_move rfl (nb rfl) (by rintro _ ⟨⟩))) ?_
              refine AL.go (OpR.plain rfl (r_byteD un_9 rfl rfl (nb rfl) (by first | omega | (simp only [Int.toNat_natCast] at *; omega)) (by first | omega | (simp only [Int.toNat_natCast] at *; omega)))) ?_
              refine AL.go (OpR.plain rfl (r_callFun (rdigit_s _) en_51 rfl rfl rfl rfl (.cons (A.le_refl _) .nil) rfl (nb rfl))) ?_
              refine AL.nil ?_
              refine thenN ?_
              refine AW.condb rfl (fun h14 => ?_) (fun h14 => ?_)
              · have h14n := h14; try simp only [dtt, dff, bqi, bqf, bni, bnf, nt1, nf1, nt0, nf0, ne_eq, ilt, ile, Int.toNat_natCast] at h14n
                refine AW.seq ?_
                refine AW.block ?_
                refine AW.loop (ι := { x : Nat // ScI isDigit s iI x }) (fun x => ⟨[(0, A.val (.string s)), (1, A.i64 (a : Int)), (4, A.c (.ref 101 0)), (7, A.i64 (iI : Int)), (8, A.i64 (x.1 : Int))], [(101, .box [.d (.v (.int .i64 0)), .d (.v (.string { data := #[] })), .d (.v (.int .i64 0)), .d (.v (.int .i64 0))])], []⟩) (fun x => s.size - x.1) ⟨iI, ⟨ler _, by omega, rfl⟩⟩ (weakens_id (.cons rfl (A.le_of_eq (by first | rfl | (simp [A.ren, C.ren, renOf, lk]; done) | (simp [A.ren, C.ren, renOf, lk]; omega) | omega)) (.cons rfl (A.le_of_eq (by first | rfl | (simp [A.ren, C.ren, renOf, lk]; done) | (simp [A.ren, C.ren, renOf, lk]; omega) | omega)) (.cons rfl (A.le_of_eq (by first | rfl | (simp [A.ren, C.ren, renOf, lk]; done) | (simp [A.ren, C.ren, renOf, lk]; omega) | omega)) (.cons rfl (A.le_of_eq (by first | rfl | (simp [A.ren, C.ren, renOf, lk]; done) | (simp [A.ren, C.ren, renOf, lk]; omega) | omega)) (.cons rfl (A.le_of_eq (by first | rfl | (simp [A.ren, C.ren, renOf, lk]; done) | (simp [A.ren, C.ren, renOf, lk]; omega) | omega)) .nil))))) (.cons rfl (Ob.le_refl _) .nil) rfl rfl rfl rfl) ?_
                rintro ⟨kK, hJ⟩
                have hJa := hJ.lo; have hJb := hJ.hi
                show AW _ _ (⟨[(0, A.val (.string s)), (1, A.i64 (a : Int)), (4, A.c (.ref 101 0)), (7, A.i64 (iI : Int)), (8, A.i64 (kK : Int))], [(101, .box [.d (.v (.int .i64 0)), .d (.v (.string { data := #[] })), .d (.v (.int .i64 0)), .d (.v (.int .i64 0))])], []⟩ : St) _
                refine AW.seq ?_
                refine AW.seq ?_
                refine AW.region ?_
                refine AL.go (OpR.plain rfl (r_move rfl (nb rfl) (by rintro _ ⟨⟩))) ?_
                refine AL.go (OpR.plain rfl (r_move rfl (nb rfl) (by rintro _ ⟨⟩))) ?_
                refine AL.go (OpR.plain rfl (r_lens un_9 rfl (nb rfl))) ?_
                refine AL.go (OpR.plain rfl (r_bin rfl rfl (nb rfl) rfl (run_int_lss _ _ _))) ?_
                refine AL.go (OpR.plain rfl (r_move rfl (nb rfl) (by rintro _ ⟨⟩))) ?_
                refine AL.ifb (t := 96) rfl (fun h15 => ?_) (fun h15 => ?_)
                · have h15n := h15; try simp only [dtt, dff, bqi, bqf, bni, bnf, nt1, nf1, nt0, nf0, ne_eq, ilt, ile, Int.toNat_natCast] at h15n
                  refine AL.go (OpR.onb rfl rfl (nb rfl) rfl (h15) (r_move rfl (nb rfl) (by rintro _ ⟨⟩))) ?_
                  refine AL.go (OpR.onb rfl rfl (nb rfl) rfl (h15) (r_move rfl (nb rfl) (by rintro _ ⟨⟩))) ?_
                  refine AL.go (OpR.onb rfl rfl (nb rfl) rfl (h15) (r_byteD un_9 rfl rfl (nb rfl) (by first | omega | (simp only [Int.toNat_natCast] at *; omega)) (by first | omega | (simp only [Int.toNat_natCast] at *; omega)))) ?_
                  refine AL.go (OpR.onb rfl rfl (nb rfl) rfl (h15) (r_callFun (rdigit_s _) en_51 rfl rfl rfl rfl (.cons (A.le_refl _) .nil) rfl (nb rfl))) ?_
                  refine AL.go (OpR.plain rfl (r_pickTb rfl (h15) rfl (nb rfl) (by rintro _ ⟨⟩))) ?_
                  refine AL.nil ?_
                  refine thenN ?_
                  refine AW.condb rfl (fun h16 => ?_) (fun h16 => ?_)
                  · have h16n := h16; try simp only [dtt, dff, bqi, bqf, bni, bnf, nt1, nf1, nt0, nf0, ne_eq, ilt, ile, Int.toNat_natCast] at h16n
                    refine AW.skip ?_
                    refine thenN ?_
                    refine AW.block ?_
                    refine AW.region ?_
                    refine AL.go (OpR.plain rfl (r_move rfl (nb rfl) (by rintro _ ⟨⟩))) ?_
                    refine AL.go (OpR.plain rfl (r_add rfl rfl (nb rfl) (by first | omega | (simp only [Int.toNat_natCast] at *; omega)) (by first | omega | (simp only [Int.toNat_natCast] at *; omega)))) ?_
                    refine AL.go (OpR.plain rfl (r_assign rfl (nb rfl) (by rintro _ ⟨⟩))) ?_
                    refine AL.nil ?_
                    refine inbN ?_
                    refine thenN ?_
                    refine ⟨⟨kK + 1, hJ.next (by omega) (by assumption)⟩, by simp only; omega, weakens_id (.cons rfl (A.le_of_eq (by first | rfl | (simp [A.ren, C.ren, renOf, lk]; done) | (simp [A.ren, C.ren, renOf, lk]; omega) | omega)) (.cons rfl (A.le_of_eq (by first | rfl | (simp [A.ren, C.ren, renOf, lk]; done) | (simp [A.ren, C.ren, renOf, lk]; omega) | omega)) (.cons rfl (A.le_of_eq (by first | rfl | (simp [A.ren, C.ren, renOf, lk]; done) | (simp [A.ren, C.ren, renOf, lk]; omega) | omega)) (.cons rfl (A.le_of_eq (by first | rfl | (simp [A.ren, C.ren, renOf, lk]; done) | (simp [A.ren, C.ren, renOf, lk]; omega) | omega)) (.cons rfl (A.le_of_eq (by first | rfl | (simp [A.ren, C.ren, renOf, lk]; done) | (simp [A.ren, C.ren, renOf, lk]; omega) | omega)) .nil))))) (.cons rfl (Ob.le_refl _) .nil) rfl rfl rfl rfl⟩
                  · have h16n := h16; try simp only [dtt, dff, bqi, bqf, bni, bnf, nt1, nf1, nt0, nf0, ne_eq, ilt, ile, Int.toNat_natCast] at h16n
                    refine AW.exit ?_
                    refine thenX ?_
                    refine thenX ?_
                    refine inbE ?_
                    refine thenN ?_
                    refine AW.seq ?_
                    refine AW.region ?_
                    have hD : runOf isDigit s iI = kK := hJ.stop (by first | (left; omega) | (right; assumption))
                    have hNum := num_sub (s := s) (i := iI) (k := kK) (by omega)
                    have hM := numberM_fix hD a
                    refine AL.go (OpR.plain rfl (r_move rfl (nb rfl) (by rintro _ ⟨⟩))) ?_
                    refine AL.go (OpR.plain rfl (r_move rfl (nb rfl) (by rintro _ ⟨⟩))) ?_
                    refine AL.go (OpR.plain rfl (r_move rfl (nb rfl) (by rintro _ ⟨⟩))) ?_
                    refine AL.go (OpR.plain rfl (r_substr un_9 rfl rfl rfl (nb rfl) (by first | omega | (simp only [Int.toNat_natCast] at *; omega)) (by first | omega | (simp only [Int.toNat_natCast] at *; omega)) (by first | omega | (simp only [Int.toNat_natCast] at *; omega)))) ?_
                    refine AL.go (OpR.plain rfl (r_callFun (rnumber_s (s.extract iI kK) (by rw [ByteArray.size_extract]; omega) (dig_sub (by omega) hD)) en_53 rfl rfl rfl rfl (.cons (A.le_refl _) .nil) rfl (nb rfl))) ?_
                    refine AL.go (OpR.plain rfl (r_move rfl (nb rfl) (by rintro _ ⟨⟩))) ?_
                    refine AL.go (OpR.plain rfl (r_extract rfl rfl (nb rfl))) ?_
                    refine AL.go (OpR.plain rfl (r_extract rfl rfl (nb rfl))) ?_
                    refine AL.go (OpR.plain rfl (r_assign rfl (nb rfl) (by rintro _ ⟨⟩))) ?_
                    refine AL.go (OpR.plain rfl (r_assign rfl (nb rfl) (by rintro _ ⟨⟩))) ?_
                    refine AL.nil ?_
                    refine thenN ?_
                    refine AW.seq ?_
                    refine AW.seq ?_
                    refine AW.region ?_
                    refine AL.go (OpR.plain rfl (r_move rfl (nb rfl) (by rintro _ ⟨⟩))) ?_
                    refine AL.go (OpR.plain rfl (r_not rfl (nb rfl))) ?_
                    refine AL.go (OpR.plain rfl (r_move rfl (nb rfl) (by rintro _ ⟨⟩))) ?_
                    refine AL.ifb (t := 114) rfl (fun h17 => ?_) (fun h17 => ?_)
                    · have h17n := h17; try simp only [dtt, dff, bqi, bqf, bni, bnf, nt1, nf1, nt0, nf0, ne_eq, ilt, ile, Int.toNat_natCast] at h17n
                      refine AL.go (.off rfl rfl (nb rfl) rfl (by rw [h17]; decide) rfl (nb rfl)) ?_
                      refine AL.go (.off rfl rfl (nb rfl) rfl (by rw [h17]; decide) rfl (nb rfl)) ?_
                      refine AL.go (.off rfl rfl (nb rfl) rfl (by rw [h17]; decide) rfl (nb rfl)) ?_
                      refine AL.go (.off rfl rfl (nb rfl) rfl (by rw [h17]; decide) rfl (nb rfl)) ?_
                      refine AL.go (.off rfl rfl (nb rfl) rfl (by rw [h17]; decide) rfl (nb rfl)) ?_
                      refine AL.go (.offU rfl rfl (nb rfl) rfl rfl (nb rfl)) ?_
                      refine AL.go (.offU rfl rfl (nb rfl) rfl rfl (nb rfl)) ?_
                      refine AL.go (.offU rfl rfl (nb rfl) rfl rfl (nb rfl)) ?_
                      refine AL.go (.offU rfl rfl (nb rfl) rfl rfl (nb rfl)) ?_
                      refine AL.go (.off rfl rfl (nb rfl) rfl (by rw [h17]; decide) rfl (nb rfl)) ?_
                      refine AL.go (OpR.plain rfl (r_pickTb rfl (h17) rfl (nb rfl) (by rintro _ ⟨⟩; rfl))) ?_
                      refine AL.nil ?_
                      refine thenN ?_
                      refine AW.condT rfl (rfl) ?_
                      refine AW.seq ?_
                      refine AW.region ?_
                      refine AL.go (OpR.plain rfl (r_build pl_53 rfl zc_53 rfl rfl (by simp only [fillC, putAt, gez, ges, if_true, and_self, Nat.reduceLeDiff, true_and, tks, tkz, tkn, dps, dpz, cap, nap, apn, lnc, lnn, zad, Nat.reduceAdd, adz]; rfl) (nb rfl))) ?_
                      refine AL.go (OpR.plain rfl (r_move rfl (nb rfl) (by rintro _ ⟨⟩))) ?_
                      refine AL.go (OpR.plain rfl (r_storeN ti_53 rfl rfl rfl rfl rfl (nb rfl) (by simp only [putAt, tks, tkz, tkn, dps, dpz, cap, nap, apn, lnc, lnn, zad, Nat.reduceAdd, adz]; rfl) (by rintro _ ⟨⟩))) ?_
                      refine AL.go (OpR.plain rfl (r_assign rfl (nb rfl) (by rintro _ ⟨⟩))) ?_
                      refine AL.go (OpR.plain rfl (r_assign rfl (nb rfl) (by rintro _ ⟨⟩; rfl))) ?_
                      refine AL.nil ?_
                      refine thenN ?_
                      refine AW.ret ?_
                      refine thenR ?_
                      refine thenR ?_
                      refine fin_id (.inr rfl) (ends_of rfl (.cell ti_53 rfl rfl (by simp only [loaded, if_true, ler, tks, tkz, tkn, dps, dpz, cap, nap, apn, lnc, lnn, zad, Nat.reduceAdd, adz]; rfl) (.tmp rfl (.tmp rfl .nil)))) ?_ .nil rfl rfl rfl rfl
                      simp only [retA]
                      first | (exfalso; omega) | (refine A.le_of_eq ?_; simp only [oneM, hB]; by_cases he : iI = s.size <;> first | (exfalso; omega) | (simp_all; done) | (simp only [if_neg he, textM_fix]; simp_all; done) | (rw [if_neg he, if_pos (by assumption), hM]; first | (rw [if_pos (by omega)]; done) | (rw [if_neg (by omega)]; simp_all; done)) | (rw [if_neg he, if_neg (by simp_all), if_pos (by assumption), hM]; cases hq : numAt s (kK - iI) iI 0 <;> first | (simp_all; done) | (dsimp only; rw [if_neg (by rintro ⟨hx, _⟩; omega)]; simp_all; done) | (simp_all; omega)))
                    · have h17n := h17; try simp only [dtt, dff, bqi, bqf, bni, bnf, nt1, nf1, nt0, nf0, ne_eq, ilt, ile, Int.toNat_natCast] at h17n
                      refine AL.go (OpR.onb rfl rfl (nb rfl) rfl (h17) (r_move rfl (nb rfl) (by rintro _ ⟨⟩))) ?_
                      refine AL.go (OpR.onb rfl rfl (nb rfl) rfl (h17) (r_move rfl (nb rfl) (by rintro _ ⟨⟩))) ?_
                      refine AL.go (OpR.onb rfl rfl (nb rfl) rfl (h17) (r_lens un_9 rfl (nb rfl))) ?_
                      refine AL.go (OpR.onb rfl rfl (nb rfl) rfl (h17) (r_bin rfl rfl (nb rfl) rfl (run_int_lss _ _ _))) ?_
                      refine AL.go (OpR.onb rfl rfl (nb rfl) rfl (h17) (r_move rfl (nb rfl) (by rintro _ ⟨⟩))) ?_
                      refine AL.ifb (t := 119) rfl (fun h18 => ?_) (fun h18 => ?_)
                      · have h18n := h18; try simp only [dtt, dff, bqi, bqf, bni, bnf, nt1, nf1, nt0, nf0, ne_eq, ilt, ile, Int.toNat_natCast] at h18n
                        refine AL.go (OpR.onb rfl rfl (nb rfl) rfl (h18) (r_move rfl (nb rfl) (by rintro _ ⟨⟩))) ?_
                        refine AL.go (OpR.onb rfl rfl (nb rfl) rfl (h18) (r_move rfl (nb rfl) (by rintro _ ⟨⟩))) ?_
                        refine AL.go (OpR.onb rfl rfl (nb rfl) rfl (h18) (r_byteD un_9 rfl rfl (nb rfl) (by first | omega | (simp only [Int.toNat_natCast] at *; omega)) (by first | omega | (simp only [Int.toNat_natCast] at *; omega)))) ?_
                        refine AL.go (OpR.onb rfl rfl (nb rfl) rfl (h18) (r_callFun (rletter_s _) en_50 rfl rfl rfl rfl (.cons (A.le_refl _) .nil) rfl (nb rfl))) ?_
                        refine AL.go (OpR.onb rfl rfl (nb rfl) rfl (h17) (r_pickTb rfl (h18) rfl (nb rfl) (by rintro _ ⟨⟩))) ?_
                        refine AL.go (OpR.plain rfl (r_pickFb rfl (h17) rfl (nb rfl) (by rintro _ ⟨⟩))) ?_
                        refine AL.nil ?_
                        refine thenN ?_
                        refine AW.condb rfl (fun h19 => ?_) (fun h19 => ?_)
                        · have h19n := h19; try simp only [dtt, dff, bqi, bqf, bni, bnf, nt1, nf1, nt0, nf0, ne_eq, ilt, ile, Int.toNat_natCast] at h19n
                          refine AW.seq ?_
                          refine AW.region ?_
                          refine AL.go (OpR.plain rfl (r_build pl_53 rfl zc_53 rfl rfl (by simp only [fillC, putAt, gez, ges, if_true, and_self, Nat.reduceLeDiff, true_and, tks, tkz, tkn, dps, dpz, cap, nap, apn, lnc, lnn, zad, Nat.reduceAdd, adz]; rfl) (nb rfl))) ?_
                          refine AL.go (OpR.plain rfl (r_move rfl (nb rfl) (by rintro _ ⟨⟩))) ?_
                          refine AL.go (OpR.plain rfl (r_storeN ti_53 rfl rfl rfl rfl rfl (nb rfl) (by simp only [putAt, tks, tkz, tkn, dps, dpz, cap, nap, apn, lnc, lnn, zad, Nat.reduceAdd, adz]; rfl) (by rintro _ ⟨⟩))) ?_
                          refine AL.go (OpR.plain rfl (r_assign rfl (nb rfl) (by rintro _ ⟨⟩))) ?_
                          refine AL.go (OpR.plain rfl (r_assign rfl (nb rfl) (by rintro _ ⟨⟩; rfl))) ?_
                          refine AL.nil ?_
                          refine thenN ?_
                          refine AW.ret ?_
                          refine thenR ?_
                          refine thenR ?_
                          refine fin_id (.inr rfl) (ends_of rfl (.cell ti_53 rfl rfl (by simp only [loaded, if_true, ler, tks, tkz, tkn, dps, dpz, cap, nap, apn, lnc, lnn, zad, Nat.reduceAdd, adz]; rfl) (.tmp rfl (.tmp rfl .nil)))) ?_ .nil rfl rfl rfl rfl
                          simp only [retA]
                          first | (exfalso; omega) | (refine A.le_of_eq ?_; simp only [oneM, hB]; by_cases he : iI = s.size <;> first | (exfalso; omega) | (simp_all; done) | (simp only [if_neg he, textM_fix]; simp_all; done) | (rw [if_neg he, if_pos (by assumption), hM]; first | (rw [if_pos (by omega)]; done) | (rw [if_neg (by omega)]; simp_all; done)) | (rw [if_neg he, if_neg (by simp_all), if_pos (by assumption), hM]; cases hq : numAt s (kK - iI) iI 0 <;> first | (simp_all; done) | (dsimp only; rw [if_neg (by rintro ⟨hx, _⟩; omega)]; simp_all; done) | (simp_all; omega)))
                        · have h19n := h19; try simp only [dtt, dff, bqi, bqf, bni, bnf, nt1, nf1, nt0, nf0, ne_eq, ilt, ile, Int.toNat_natCast] at h19n
                          refine AW.skip ?_
                          refine thenN ?_
                          refine AW.seq ?_
                          refine AW.region ?_
                          refine AL.go (OpR.plain rfl (r_move rfl (nb rfl) (by rintro _ ⟨⟩))) ?_
                          refine AL.go (OpR.plain rfl (r_move rfl (nb rfl) (by rintro _ ⟨⟩))) ?_
                          refine AL.go (OpR.plain rfl (r_move rfl (nb rfl) (by rintro _ ⟨⟩))) ?_
                          refine AL.go (OpR.plain rfl (r_substr un_9 rfl rfl rfl (nb rfl) (by first | omega | (simp only [Int.toNat_natCast] at *; omega)) (by first | omega | (simp only [Int.toNat_natCast] at *; omega)) (by first | omega | (simp only [Int.toNat_natCast] at *; omega)))) ?_
                          refine AL.go (OpR.plain rfl (r_move rfl (nb rfl) (by rintro _ ⟨⟩))) ?_
                          refine AL.go (OpR.plain rfl (r_move rfl (nb rfl) (by rintro _ ⟨⟩))) ?_
                          refine AL.go (OpR.plain rfl (r_build pl_53 rfl zc_53 rfl rfl (by simp only [fillC, putAt, gez, ges, if_true, and_self, Nat.reduceLeDiff, true_and, tks, tkz, tkn, dps, dpz, cap, nap, apn, lnc, lnn, zad, Nat.reduceAdd, adz]; rfl) (nb rfl))) ?_
                          refine AL.go (OpR.plain rfl (r_move rfl (nb rfl) (by rintro _ ⟨⟩))) ?_
                          refine AL.go (OpR.plain rfl (r_storeN ti_53 rfl rfl rfl rfl rfl (nb rfl) (by simp only [putAt, tks, tkz, tkn, dps, dpz, cap, nap, apn, lnc, lnn, zad, Nat.reduceAdd, adz]; rfl) (by rintro _ ⟨⟩))) ?_
                          refine AL.go (OpR.plain rfl (r_assign rfl (nb rfl) (by rintro _ ⟨⟩))) ?_
                          refine AL.go (OpR.plain rfl (r_assign rfl (nb rfl) (by rintro _ ⟨⟩; rfl))) ?_
                          refine AL.nil ?_
                          refine thenN ?_
                          refine AW.ret ?_
                          refine thenR ?_
                          refine fin_id (.inr rfl) (ends_of rfl (.cell ti_53 rfl rfl (by simp only [loaded, if_true, ler, tks, tkz, tkn, dps, dpz, cap, nap, apn, lnc, lnn, zad, Nat.reduceAdd, adz]; rfl) (.tmp rfl (.tmp rfl .nil)))) ?_ .nil rfl rfl rfl rfl
                          simp only [retA]
                          first | (exfalso; omega) | (refine A.le_of_eq ?_; simp only [oneM, hB]; by_cases he : iI = s.size <;> first | (exfalso; omega) | (simp_all; done) | (simp only [if_neg he, textM_fix]; simp_all; done) | (rw [if_neg he, if_pos (by assumption), hM]; first | (rw [if_pos (by omega)]; done) | (rw [if_neg (by omega)]; simp_all; done)) | (rw [if_neg he, if_neg (by simp_all), if_pos (by assumption), hM]; cases hq : numAt s (kK - iI) iI 0 <;> first | (simp_all; done) | (dsimp only; rw [if_neg (by rintro ⟨hx, _⟩; omega)]; simp_all; done) | (simp_all; omega)))
                      · have h18n := h18; try simp only [dtt, dff, bqi, bqf, bni, bnf, nt1, nf1, nt0, nf0, ne_eq, ilt, ile, Int.toNat_natCast] at h18n
                        refine AL.go (.off rfl rfl (nb rfl) rfl (by rw [h18]; decide) rfl (nb rfl)) ?_
                        refine AL.go (.off rfl rfl (nb rfl) rfl (by rw [h18]; decide) rfl (nb rfl)) ?_
                        refine AL.go (.off rfl rfl (nb rfl) rfl (by rw [h18]; decide) rfl (nb rfl)) ?_
                        refine AL.go (.off rfl rfl (nb rfl) rfl (by rw [h18]; decide) rfl (nb rfl)) ?_
                        refine AL.go (OpR.onb rfl rfl (nb rfl) rfl (h17) (r_pickFb rfl (h18) rfl (nb rfl) (by rintro _ ⟨⟩; rfl))) ?_
                        refine AL.go (OpR.plain rfl (r_pickFb rfl (h17) rfl (nb rfl) (by rintro _ ⟨⟩))) ?_
                        refine AL.nil ?_
                        refine thenN ?_
                        refine AW.condF rfl (rfl) ?_
                        refine AW.skip ?_
                        refine thenN ?_
                        refine AW.seq ?_
                        refine AW.region ?_
                        refine AL.go (OpR.plain rfl (r_move rfl (nb rfl) (by rintro _ ⟨⟩))) ?_
                        refine AL.go (OpR.plain rfl (r_move rfl (nb rfl) (by rintro _ ⟨⟩))) ?_
                        refine AL.go (OpR.plain rfl (r_move rfl (nb rfl) (by rintro _ ⟨⟩))) ?_
                        refine AL.go (OpR.plain rfl (r_substr un_9 rfl rfl rfl (nb rfl) (by first | omega | (simp only [Int.toNat_natCast] at *; omega)) (by first | omega | (simp only [Int.toNat_natCast] at *; omega)) (by first | omega | (simp only [Int.toNat_natCast] at *; omega)))) ?_
                        refine AL.go (OpR.plain rfl (r_move rfl (nb rfl) (by rintro _ ⟨⟩))) ?_
                        refine AL.go (OpR.plain rfl (r_move rfl (nb rfl) (by rintro _ ⟨⟩))) ?_
                        refine AL.go (OpR.plain rfl (r_build pl_53 rfl zc_53 rfl rfl (by simp only [fillC, putAt, gez, ges, if_true, and_self, Nat.reduceLeDiff, true_and, tks, tkz, tkn, dps, dpz, cap, nap, apn, lnc, lnn, zad, Nat.reduceAdd, adz]; rfl) (nb rfl))) ?_
                        refine AL.go (OpR.plain rfl (r_move rfl (nb rfl) (by rintro _ ⟨⟩))) ?_
                        refine AL.go (OpR.plain rfl (r_storeN ti_53 rfl rfl rfl rfl rfl (nb rfl) (by simp only [putAt, tks, tkz, tkn, dps, dpz, cap, nap, apn, lnc, lnn, zad, Nat.reduceAdd, adz]; rfl) (by rintro _ ⟨⟩))) ?_
                        refine AL.go (OpR.plain rfl (r_assign rfl (nb rfl) (by rintro _ ⟨⟩))) ?_
                        refine AL.go (OpR.plain rfl (r_assign rfl (nb rfl) (by rintro _ ⟨⟩; rfl))) ?_
                        refine AL.nil ?_
                        refine thenN ?_
                        refine AW.ret ?_
                        refine thenR ?_
                        refine fin_id (.inr rfl) (ends_of rfl (.cell ti_53 rfl rfl (by simp only [loaded, if_true, ler, tks, tkz, tkn, dps, dpz, cap, nap, apn, lnc, lnn, zad, Nat.reduceAdd, adz]; rfl) (.tmp rfl (.tmp rfl .nil)))) ?_ .nil rfl rfl rfl rfl
                        simp only [retA]
                        first | (exfalso; omega) | (refine A.le_of_eq ?_; simp only [oneM, hB]; by_cases he : iI = s.size <;> first | (exfalso; omega) | (simp_all; done) | (simp only [if_neg he, textM_fix]; simp_all; done) | (rw [if_neg he, if_pos (by assumption), hM]; first | (rw [if_pos (by omega)]; done) | (rw [if_neg (by omega)]; simp_all; done)) | (rw [if_neg he, if_neg (by simp_all), if_pos (by assumption), hM]; cases hq : numAt s (kK - iI) iI 0 <;> first | (simp_all; done) | (dsimp only; rw [if_neg (by rintro ⟨hx, _⟩; omega)]; simp_all; done) | (simp_all; omega)))
                · have h15n := h15; try simp only [dtt, dff, bqi, bqf, bni, bnf, nt1, nf1, nt0, nf0, ne_eq, ilt, ile, Int.toNat_natCast] at h15n
                  refine AL.go (.off rfl rfl (nb rfl) rfl (by rw [h15]; decide) rfl (nb rfl)) ?_
                  refine AL.go (.off rfl rfl (nb rfl) rfl (by rw [h15]; decide) rfl (nb rfl)) ?_
                  refine AL.go (.off rfl rfl (nb rfl) rfl (by rw [h15]; decide) rfl (nb rfl)) ?_
                  refine AL.go (.off rfl rfl (nb rfl) rfl (by rw [h15]; decide) rfl (nb rfl)) ?_
                  refine AL.go (OpR.plain rfl (r_pickFb rfl (h15) rfl (nb rfl) (by rintro _ ⟨⟩; rfl))) ?_
                  refine AL.nil ?_
                  refine thenN ?_
                  refine AW.condF rfl (rfl) ?_
                  refine AW.exit ?_
                  refine thenX ?_
                  refine thenX ?_
                  refine inbE ?_
                  refine thenN ?_
                  refine AW.seq ?_
                  refine AW.region ?_
                  have hD : runOf isDigit s iI = kK := hJ.stop (by first | (left; omega) | (right; assumption))
                  have hNum := num_sub (s := s) (i := iI) (k := kK) (by omega)
                  have hM := numberM_fix hD a
                  refine AL.go (OpR.plain rfl (r_move rfl (nb rfl) (by rintro _ ⟨⟩))) ?_
                  refine AL.go (OpR.plain rfl (r_move rfl (nb rfl) (by rintro _ ⟨⟩))) ?_
                  refine AL.go (OpR.plain rfl (r_move rfl (nb rfl) (by rintro _ ⟨⟩))) ?_
                  refine AL.go (OpR.plain rfl (r_substr un_9 rfl rfl rfl (nb rfl) (by first | omega | (simp only [Int.toNat_natCast] at *; omega)) (by first | omega | (simp only [Int.toNat_natCast] at *; omega)) (by first | omega | (simp only [Int.toNat_natCast] at *; omega)))) ?_
                  refine AL.go (OpR.plain rfl (r_callFun (rnumber_s (s.extract iI kK) (by rw [ByteArray.size_extract]; omega) (dig_sub (by omega) hD)) en_53 rfl rfl rfl rfl (.cons (A.le_refl _) .nil) rfl (nb rfl))) ?_
                  refine AL.go (OpR.plain rfl (r_move rfl (nb rfl) (by rintro _ ⟨⟩))) ?_
                  refine AL.go (OpR.plain rfl (r_extract rfl rfl (nb rfl))) ?_
                  refine AL.go (OpR.plain rfl (r_extract rfl rfl (nb rfl))) ?_
                  refine AL.go (OpR.plain rfl (r_assign rfl (nb rfl) (by rintro _ ⟨⟩))) ?_
                  refine AL.go (OpR.plain rfl (r_assign rfl (nb rfl) (by rintro _ ⟨⟩))) ?_
                  refine AL.nil ?_
                  refine thenN ?_
                  refine AW.seq ?_
                  refine AW.seq ?_
                  refine AW.region ?_
                  refine AL.go (OpR.plain rfl (r_move rfl (nb rfl) (by rintro _ ⟨⟩))) ?_
                  refine AL.go (OpR.plain rfl (r_not rfl (nb rfl))) ?_
                  refine AL.go (OpR.plain rfl (r_move rfl (nb rfl) (by rintro _ ⟨⟩))) ?_
                  refine AL.ifb (t := 114) rfl (fun h20 => ?_) (fun h20 => ?_)
                  · have h20n := h20; try simp only [dtt, dff, bqi, bqf, bni, bnf, nt1, nf1, nt0, nf0, ne_eq, ilt, ile, Int.toNat_natCast] at h20n
                    refine AL.go (.off rfl rfl (nb rfl) rfl (by rw [h20]; decide) rfl (nb rfl)) ?_
                    refine AL.go (.off rfl rfl (nb rfl) rfl (by rw [h20]; decide) rfl (nb rfl)) ?_
                    refine AL.go (.off rfl rfl (nb rfl) rfl (by rw [h20]; decide) rfl (nb rfl)) ?_
                    refine AL.go (.off rfl rfl (nb rfl) rfl (by rw [h20]; decide) rfl (nb rfl)) ?_
                    refine AL.go (.off rfl rfl (nb rfl) rfl (by rw [h20]; decide) rfl (nb rfl)) ?_
                    refine AL.go (.offU rfl rfl (nb rfl) rfl rfl (nb rfl)) ?_
                    refine AL.go (.offU rfl rfl (nb rfl) rfl rfl (nb rfl)) ?_
                    refine AL.go (.offU rfl rfl (nb rfl) rfl rfl (nb rfl)) ?_
                    refine AL.go (.offU rfl rfl (nb rfl) rfl rfl (nb rfl)) ?_
                    refine AL.go (.off rfl rfl (nb rfl) rfl (by rw [h20]; decide) rfl (nb rfl)) ?_
                    refine AL.go (OpR.plain rfl (r_pickTb rfl (h20) rfl (nb rfl) (by rintro _ ⟨⟩; rfl))) ?_
                    refine AL.nil ?_
                    refine thenN ?_
                    refine AW.condT rfl (rfl) ?_
                    refine AW.seq ?_
                    refine AW.region ?_
                    refine AL.go (OpR.plain rfl (r_build pl_53 rfl zc_53 rfl rfl (by simp only [fillC, putAt, gez, ges, if_true, and_self, Nat.reduceLeDiff, true_and, tks, tkz, tkn, dps, dpz, cap, nap, apn, lnc, lnn, zad, Nat.reduceAdd, adz]; rfl) (nb rfl))) ?_
                    refine AL.go (OpR.plain rfl (r_move rfl (nb rfl) (by rintro _ ⟨⟩))) ?_
                    refine AL.go (OpR.plain rfl (r_storeN ti_53 rfl rfl rfl rfl rfl (nb rfl) (by simp only [putAt, tks, tkz, tkn, dps, dpz, cap, nap, apn, lnc, lnn, zad, Nat.reduceAdd, adz]; rfl) (by rintro _ ⟨⟩))) ?_
                    refine AL.go (OpR.plain rfl (r_assign rfl (nb rfl) (by rintro _ ⟨⟩))) ?_
                    refine AL.go (OpR.plain rfl (r_assign rfl (nb rfl) (by rintro _ ⟨⟩; rfl))) ?_
                    refine AL.nil ?_
                    refine thenN ?_
                    refine AW.ret ?_
                    refine thenR ?_
                    refine thenR ?_
                    refine fin_id (.inr rfl) (ends_of rfl (.cell ti_53 rfl rfl (by simp only [loaded, if_true, ler, tks, tkz, tkn, dps, dpz, cap, nap, apn, lnc, lnn, zad, Nat.reduceAdd, adz]; rfl) (.tmp rfl (.tmp rfl .nil)))) ?_ .nil rfl rfl rfl rfl
                    simp only [retA]
                    first | (exfalso; omega) | (refine A.le_of_eq ?_; simp only [oneM, hB]; by_cases he : iI = s.size <;> first | (exfalso; omega) | (simp_all; done) | (simp only [if_neg he, textM_fix]; simp_all; done) | (rw [if_neg he, if_pos (by assumption), hM]; first | (rw [if_pos (by omega)]; done) | (rw [if_neg (by omega)]; simp_all; done)) | (rw [if_neg he, if_neg (by simp_all), if_pos (by assumption), hM]; cases hq : numAt s (kK - iI) iI 0 <;> first | (simp_all; done) | (dsimp only; rw [if_neg (by rintro ⟨hx, _⟩; omega)]; simp_all; done) | (simp_all; omega)))
                  · have h20n := h20; try simp only [dtt, dff, bqi, bqf, bni, bnf, nt1, nf1, nt0, nf0, ne_eq, ilt, ile, Int.toNat_natCast] at h20n
                    refine AL.go (OpR.onb rfl rfl (nb rfl) rfl (h20) (r_move rfl (nb rfl) (by rintro _ ⟨⟩))) ?_
                    refine AL.go (OpR.onb rfl rfl (nb rfl) rfl (h20) (r_move rfl (nb rfl) (by rintro _ ⟨⟩))) ?_
                    refine AL.go (OpR.onb rfl rfl (nb rfl) rfl (h20) (r_lens un_9 rfl (nb rfl))) ?_
                    refine AL.go (OpR.onb rfl rfl (nb rfl) rfl (h20) (r_bin rfl rfl (nb rfl) rfl (run_int_lss _ _ _))) ?_
                    refine AL.go (OpR.onb rfl rfl (nb rfl) rfl (h20) (r_move rfl (nb rfl) (by rintro _ ⟨⟩))) ?_
                    refine AL.ifb (t := 119) rfl (fun h21 => ?_) (fun h21 => ?_)
                    · have h21n := h21; try simp only [dtt, dff, bqi, bqf, bni, bnf, nt1, nf1, nt0, nf0, ne_eq, ilt, ile, Int.toNat_natCast] at h21n
                      refine AL.go (OpR.onb rfl rfl (nb rfl) rfl (h21) (r_move rfl (nb rfl) (by rintro _ ⟨⟩))) ?_
                      refine AL.go (OpR.onb rfl rfl (nb rfl) rfl (h21) (r_move rfl (nb rfl) (by rintro _ ⟨⟩))) ?_
                      refine AL.go (OpR.onb rfl rfl (nb rfl) rfl (h21) (r_byteD un_9 rfl rfl (nb rfl) (by first | omega | (simp only [Int.toNat_natCast] at *; omega)) (by first | omega | (simp only [Int.toNat_natCast] at *; omega)))) ?_
                      refine AL.go (OpR.onb rfl rfl (nb rfl) rfl (h21) (r_callFun (rletter_s _) en_50 rfl rfl rfl rfl (.cons (A.le_refl _) .nil) rfl (nb rfl))) ?_
                      refine AL.go (OpR.onb rfl rfl (nb rfl) rfl (h20) (r_pickTb rfl (h21) rfl (nb rfl) (by rintro _ ⟨⟩))) ?_
                      refine AL.go (OpR.plain rfl (r_pickFb rfl (h20) rfl (nb rfl) (by rintro _ ⟨⟩))) ?_
                      refine AL.nil ?_
                      refine thenN ?_
                      refine AW.condb rfl (fun h22 => ?_) (fun h22 => ?_)
                      · have h22n := h22; try simp only [dtt, dff, bqi, bqf, bni, bnf, nt1, nf1, nt0, nf0, ne_eq, ilt, ile, Int.toNat_natCast] at h22n
                        refine AW.seq ?_
                        refine AW.region ?_
                        refine AL.go (OpR.plain rfl (r_build pl_53 rfl zc_53 rfl rfl (by simp only [fillC, putAt, gez, ges, if_true, and_self, Nat.reduceLeDiff, true_and, tks, tkz, tkn, dps, dpz, cap, nap, apn, lnc, lnn, zad, Nat.reduceAdd, adz]; rfl) (nb rfl))) ?_
                        refine AL.go (OpR.plain rfl (r_move rfl (nb rfl) (by rintro _ ⟨⟩))) ?_
                        refine AL.go (OpR.plain rfl (r_storeN ti_53 rfl rfl rfl rfl rfl (nb rfl) (by simp only [putAt, tks, tkz, tkn, dps, dpz, cap, nap, apn, lnc, lnn, zad, Nat.reduceAdd, adz]; rfl) (by rintro _ ⟨⟩))) ?_
                        refine AL.go (OpR.plain rfl (r_assign rfl (nb rfl) (by rintro _ ⟨⟩))) ?_
                        refine AL.go (OpR.plain rfl (r_assign rfl (nb rfl) (by rintro _ ⟨⟩; rfl))) ?_
                        refine AL.nil ?_
                        refine thenN ?_
                        refine AW.ret ?_
                        refine thenR ?_
                        refine thenR ?_
                        refine fin_id (.inr rfl) (ends_of rfl (.cell ti_53 rfl rfl (by simp only [loaded, if_true, ler, tks, tkz, tkn, dps, dpz, cap, nap, apn, lnc, lnn, zad, Nat.reduceAdd, adz]; rfl) (.tmp rfl (.tmp rfl .nil)))) ?_ .nil rfl rfl rfl rfl
                        simp only [retA]
                        first | (exfalso; omega) | (refine A.le_of_eq ?_; simp only [oneM, hB]; by_cases he : iI = s.size <;> first | (exfalso; omega) | (simp_all; done) | (simp only [if_neg he, textM_fix]; simp_all; done) | (rw [if_neg he, if_pos (by assumption), hM]; first | (rw [if_pos (by omega)]; done) | (rw [if_neg (by omega)]; simp_all; done)) | (rw [if_neg he, if_neg (by simp_all), if_pos (by assumption), hM]; cases hq : numAt s (kK - iI) iI 0 <;> first | (simp_all; done) | (dsimp only; rw [if_neg (by rintro ⟨hx, _⟩; omega)]; simp_all; done) | (simp_all; omega)))
                      · have h22n := h22; try simp only [dtt, dff, bqi, bqf, bni, bnf, nt1, nf1, nt0, nf0, ne_eq, ilt, ile, Int.toNat_natCast] at h22n
                        refine AW.skip ?_
                        refine thenN ?_
                        refine AW.seq ?_
                        refine AW.region ?_
                        refine AL.go (OpR.plain rfl (r_move rfl (nb rfl) (by rintro _ ⟨⟩))) ?_
                        refine AL.go (OpR.plain rfl (r_move rfl (nb rfl) (by rintro _ ⟨⟩))) ?_
                        refine AL.go (OpR.plain rfl (r_move rfl (nb rfl) (by rintro _ ⟨⟩))) ?_
                        refine AL.go (OpR.plain rfl (r_substr un_9 rfl rfl rfl (nb rfl) (by first | omega | (simp only [Int.toNat_natCast] at *; omega)) (by first | omega | (simp only [Int.toNat_natCast] at *; omega)) (by first | omega | (simp only [Int.toNat_natCast] at *; omega)))) ?_
                        refine AL.go (OpR.plain rfl (r_move rfl (nb rfl) (by rintro _ ⟨⟩))) ?_
                        refine AL.go (OpR.plain rfl (r_move rfl (nb rfl) (by rintro _ ⟨⟩))) ?_
                        refine AL.go (OpR.plain rfl (r_build pl_53 rfl zc_53 rfl rfl (by simp only [fillC, putAt, gez, ges, if_true, and_self, Nat.reduceLeDiff, true_and, tks, tkz, tkn, dps, dpz, cap, nap, apn, lnc, lnn, zad, Nat.reduceAdd, adz]; rfl) (nb rfl))) ?_
                        refine AL.go (OpR.plain rfl (r_move rfl (nb rfl) (by rintro _ ⟨⟩))) ?_
                        refine AL.go (OpR.plain rfl (r_storeN ti_53 rfl rfl rfl rfl rfl (nb rfl) (by simp only [putAt, tks, tkz, tkn, dps, dpz, cap, nap, apn, lnc, lnn, zad, Nat.reduceAdd, adz]; rfl) (by rintro _ ⟨⟩))) ?_
                        refine AL.go (OpR.plain rfl (r_assign rfl (nb rfl) (by rintro _ ⟨⟩))) ?_
                        refine AL.go (OpR.plain rfl (r_assign rfl (nb rfl) (by rintro _ ⟨⟩; rfl))) ?_
                        refine AL.nil ?_
                        refine thenN ?_
                        refine AW.ret ?_
                        refine thenR ?_
                        refine fin_id (.inr rfl) (ends_of rfl (.cell ti_53 rfl rfl (by simp only [loaded, if_true, ler, tks, tkz, tkn, dps, dpz, cap, nap, apn, lnc, lnn, zad, Nat.reduceAdd, adz]; rfl) (.tmp rfl (.tmp rfl .nil)))) ?_ .nil rfl rfl rfl rfl
                        simp only [retA]
                        first | (exfalso; omega) | (refine A.le_of_eq ?_; simp only [oneM, hB]; by_cases he : iI = s.size <;> first | (exfalso; omega) | (simp_all; done) | (simp only [if_neg he, textM_fix]; simp_all; done) | (rw [if_neg he, if_pos (by assumption), hM]; first | (rw [if_pos (by omega)]; done) | (rw [if_neg (by omega)]; simp_all; done)) | (rw [if_neg he, if_neg (by simp_all), if_pos (by assumption), hM]; cases hq : numAt s (kK - iI) iI 0 <;> first | (simp_all; done) | (dsimp only; rw [if_neg (by rintro ⟨hx, _⟩; omega)]; simp_all; done) | (simp_all; omega)))
                    · have h21n := h21; try simp only [dtt, dff, bqi, bqf, bni, bnf, nt1, nf1, nt0, nf0, ne_eq, ilt, ile, Int.toNat_natCast] at h21n
                      refine AL.go (.off rfl rfl (nb rfl) rfl (by rw [h21]; decide) rfl (nb rfl)) ?_
                      refine AL.go (.off rfl rfl (nb rfl) rfl (by rw [h21]; decide) rfl (nb rfl)) ?_
                      refine AL.go (.off rfl rfl (nb rfl) rfl (by rw [h21]; decide) rfl (nb rfl)) ?_
                      refine AL.go (.off rfl rfl (nb rfl) rfl (by rw [h21]; decide) rfl (nb rfl)) ?_
                      refine AL.go (OpR.onb rfl rfl (nb rfl) rfl (h20) (r_pickFb rfl (h21) rfl (nb rfl) (by rintro _ ⟨⟩; rfl))) ?_
                      refine AL.go (OpR.plain rfl (r_pickFb rfl (h20) rfl (nb rfl) (by rintro _ ⟨⟩))) ?_
                      refine AL.nil ?_
                      refine thenN ?_
                      refine AW.condF rfl (rfl) ?_
                      refine AW.skip ?_
                      refine thenN ?_
                      refine AW.seq ?_
                      refine AW.region ?_
                      refine AL.go (OpR.plain rfl (r_move rfl (nb rfl) (by rintro _ ⟨⟩))) ?_
                      refine AL.go (OpR.plain rfl (r_move rfl (nb rfl) (by rintro _ ⟨⟩))) ?_
                      refine AL.go (OpR.plain rfl (r_move rfl (nb rfl) (by rintro _ ⟨⟩))) ?_
                      refine AL.go (OpR.plain rfl (r_substr un_9 rfl rfl rfl (nb rfl) (by first | omega | (simp only [Int.toNat_natCast] at *; omega)) (by first | omega | (simp only [Int.toNat_natCast] at *; omega)) (by first | omega | (simp only [Int.toNat_natCast] at *; omega)))) ?_
                      refine AL.go (OpR.plain rfl (r_move rfl (nb rfl) (by rintro _ ⟨⟩))) ?_
                      refine AL.go (OpR.plain rfl (r_move rfl (nb rfl) (by rintro _ ⟨⟩))) ?_
                      refine AL.go (OpR.plain rfl (r_build pl_53 rfl zc_53 rfl rfl (by simp only [fillC, putAt, gez, ges, if_true, and_self, Nat.reduceLeDiff, true_and, tks, tkz, tkn, dps, dpz, cap, nap, apn, lnc, lnn, zad, Nat.reduceAdd, adz]; rfl) (nb rfl))) ?_
                      refine AL.go (OpR.plain rfl (r_move rfl (nb rfl) (by rintro _ ⟨⟩))) ?_
                      refine AL.go (OpR.plain rfl (r_storeN ti_53 rfl rfl rfl rfl rfl (nb rfl) (by simp only [putAt, tks, tkz, tkn, dps, dpz, cap, nap, apn, lnc, lnn, zad, Nat.reduceAdd, adz]; rfl) (by rintro _ ⟨⟩))) ?_
                      refine AL.go (OpR.plain rfl (r_assign rfl (nb rfl) (by rintro _ ⟨⟩))) ?_
                      refine AL.go (OpR.plain rfl (r_assign rfl (nb rfl) (by rintro _ ⟨⟩; rfl))) ?_
                      refine AL.nil ?_
                      refine thenN ?_
                      refine AW.ret ?_
                      refine thenR ?_
                      refine fin_id (.inr rfl) (ends_of rfl (.cell ti_53 rfl rfl (by simp only [loaded, if_true, ler, tks, tkz, tkn, dps, dpz, cap, nap, apn, lnc, lnn, zad, Nat.reduceAdd, adz]; rfl) (.tmp rfl (.tmp rfl .nil)))) ?_ .nil rfl rfl rfl rfl
                      simp only [retA]
                      first | (exfalso; omega) | (refine A.le_of_eq ?_; simp only [oneM, hB]; by_cases he : iI = s.size <;> first | (exfalso; omega) | (simp_all; done) | (simp only [if_neg he, textM_fix]; simp_all; done) | (rw [if_neg he, if_pos (by assumption), hM]; first | (rw [if_pos (by omega)]; done) | (rw [if_neg (by omega)]; simp_all; done)) | (rw [if_neg he, if_neg (by simp_all), if_pos (by assumption), hM]; cases hq : numAt s (kK - iI) iI 0 <;> first | (simp_all; done) | (dsimp only; rw [if_neg (by rintro ⟨hx, _⟩; omega)]; simp_all; done) | (simp_all; omega)))
              · have h14n := h14; try simp only [dtt, dff, bqi, bqf, bni, bnf, nt1, nf1, nt0, nf0, ne_eq, ilt, ile, Int.toNat_natCast] at h14n
                refine AW.skip ?_
                refine thenN ?_
                refine AW.seq ?_
                refine AW.seq ?_
                refine AW.region ?_
                refine AL.go (OpR.plain rfl (r_move rfl (nb rfl) (by rintro _ ⟨⟩))) ?_
                refine AL.go (OpR.plain rfl (r_move rfl (nb rfl) (by rintro _ ⟨⟩))) ?_
                refine AL.go (OpR.plain rfl (r_byteD un_9 rfl rfl (nb rfl) (by first | omega | (simp only [Int.toNat_natCast] at *; omega)) (by first | omega | (simp only [Int.toNat_natCast] at *; omega)))) ?_
                refine AL.go (OpR.plain rfl (r_bin rfl rfl (nb rfl) rfl (run_int_eql _ _ _))) ?_
                refine AL.nil ?_
                refine thenN ?_
                refine AW.condb rfl (fun h23 => ?_) (fun h23 => ?_)
                · have h23n := h23; try simp only [dtt, dff, bqi, bqf, bni, bnf, nt1, nf1, nt0, nf0, ne_eq, ilt, ile, Int.toNat_natCast] at h23n
                  refine AW.seq ?_
                  refine AW.region ?_
                  refine AL.go (OpR.plain rfl (r_move rfl (nb rfl) (by rintro _ ⟨⟩))) ?_
                  refine AL.go (OpR.plain rfl (r_move rfl (nb rfl) (by rintro _ ⟨⟩))) ?_
                  refine AL.go (OpR.plain rfl (r_move rfl (nb rfl) (by rintro _ ⟨⟩))) ?_
                  refine AL.go (OpR.plain rfl (r_callFun (rtext_s s a iI hs (by omega)) en_54 rfl rfl rfl rfl (.cons (A.le_refl _) (.cons (A.le_refl _) (.cons (A.le_refl _) .nil))) rfl (nb rfl))) ?_
                  refine AL.go (OpR.plain rfl (r_extract rfl rfl (nb rfl))) ?_
                  refine AL.go (OpR.plain rfl (r_extract rfl rfl (nb rfl))) ?_
                  refine AL.go (OpR.plain rfl (r_extract rfl rfl (nb rfl))) ?_
                  refine AL.go (OpR.plain rfl (r_storeN ti_53 rfl rfl rfl rfl rfl (nb rfl) (by simp only [putAt, tks, tkz, tkn, dps, dpz, cap, nap, apn, lnc, lnn, zad, Nat.reduceAdd, adz]; rfl) (by rintro _ ⟨⟩))) ?_
                  refine AL.go (OpR.plain rfl (r_assign rfl (nb rfl) (by rintro _ ⟨⟩))) ?_
                  refine AL.go (OpR.plain rfl (r_assign rfl (nb rfl) (by rintro _ ⟨⟩))) ?_
                  refine AL.nil ?_
                  refine thenN ?_
                  refine AW.ret ?_
                  refine thenR ?_
                  refine fin_id (.inr rfl) (ends_of rfl (.cell ti_53 rfl rfl (by simp only [loaded, if_true, ler, tks, tkz, tkn, dps, dpz, cap, nap, apn, lnc, lnn, zad, Nat.reduceAdd, adz]; rfl) (.tmp rfl (.tmp rfl .nil)))) ?_ .nil rfl rfl rfl rfl
                  simp only [retA]
                  first | (exfalso; omega) | (refine A.le_of_eq ?_; simp only [oneM, hB]; by_cases he : iI = s.size <;> first | (exfalso; omega) | (simp_all; done) | (simp only [if_neg he, textM_fix]; simp_all; done) | (rw [if_neg he, if_pos (by assumption), hM]; first | (rw [if_pos (by omega)]; done) | (rw [if_neg (by omega)]; simp_all; done)) | (rw [if_neg he, if_neg (by simp_all), if_pos (by assumption), hM]; cases hq : numAt s (kK - iI) iI 0 <;> first | (simp_all; done) | (dsimp only; rw [if_neg (by rintro ⟨hx, _⟩; omega)]; simp_all; done) | (simp_all; omega)))
                · have h23n := h23; try simp only [dtt, dff, bqi, bqf, bni, bnf, nt1, nf1, nt0, nf0, ne_eq, ilt, ile, Int.toNat_natCast] at h23n
                  refine AW.skip ?_
                  refine thenN ?_
                  refine AW.seq ?_
                  refine AW.region ?_
                  refine AL.go (OpR.plain rfl (r_move rfl (nb rfl) (by rintro _ ⟨⟩))) ?_
                  refine AL.go (OpR.plain rfl (r_move rfl (nb rfl) (by rintro _ ⟨⟩))) ?_
                  refine AL.go (OpR.plain rfl (r_callFun (rsign_s s iI hs (by omega)) en_55 rfl rfl rfl rfl (.cons (A.le_refl _) (.cons (A.le_refl _) .nil)) rfl (nb rfl))) ?_
                  refine AL.go (OpR.plain rfl (r_assign rfl (nb rfl) (by rintro _ ⟨⟩))) ?_
                  refine AL.nil ?_
                  refine thenN ?_
                  refine AW.seq ?_
                  refine AW.seq ?_
                  refine AW.region ?_
                  refine AL.go (OpR.plain rfl (r_move rfl (nb rfl) (by rintro _ ⟨⟩))) ?_
                  refine AL.go (OpR.plain rfl (r_bin rfl rfl (nb rfl) rfl (run_str_eql _ _))) ?_
                  refine AL.nil ?_
                  refine thenN ?_
                  refine AW.condb rfl (fun h24 => ?_) (fun h24 => ?_)
                  · have h24n := h24; try simp only [dtt, dff, bqi, bqf, bni, bnf, nt1, nf1, nt0, nf0, ne_eq, ilt, ile, Int.toNat_natCast] at h24n
                    refine AW.seq ?_
                    refine AW.region ?_
                    refine AL.go (OpR.plain rfl (r_build pl_53 rfl zc_53 rfl rfl (by simp only [fillC, putAt, gez, ges, if_true, and_self, Nat.reduceLeDiff, true_and, tks, tkz, tkn, dps, dpz, cap, nap, apn, lnc, lnn, zad, Nat.reduceAdd, adz]; rfl) (nb rfl))) ?_
                    refine AL.go (OpR.plain rfl (r_move rfl (nb rfl) (by rintro _ ⟨⟩))) ?_
                    refine AL.go (OpR.plain rfl (r_storeN ti_53 rfl rfl rfl rfl rfl (nb rfl) (by simp only [putAt, tks, tkz, tkn, dps, dpz, cap, nap, apn, lnc, lnn, zad, Nat.reduceAdd, adz]; rfl) (by rintro _ ⟨⟩))) ?_
                    refine AL.go (OpR.plain rfl (r_assign rfl (nb rfl) (by rintro _ ⟨⟩))) ?_
                    refine AL.go (OpR.plain rfl (r_assign rfl (nb rfl) (by rintro _ ⟨⟩; rfl))) ?_
                    refine AL.nil ?_
                    refine thenN ?_
                    refine AW.ret ?_
                    refine thenR ?_
                    refine fin_id (.inr rfl) (ends_of rfl (.cell ti_53 rfl rfl (by simp only [loaded, if_true, ler, tks, tkz, tkn, dps, dpz, cap, nap, apn, lnc, lnn, zad, Nat.reduceAdd, adz]; rfl) (.tmp rfl (.tmp rfl .nil)))) ?_ .nil rfl rfl rfl rfl
                    simp only [retA]
                    first | (exfalso; omega) | (refine A.le_of_eq ?_; simp only [oneM, hB]; by_cases he : iI = s.size <;> first | (exfalso; omega) | (simp_all; done) | (simp only [if_neg he, textM_fix]; simp_all; done) | (rw [if_neg he, if_pos (by assumption), hM]; first | (rw [if_pos (by omega)]; done) | (rw [if_neg (by omega)]; simp_all; done)) | (rw [if_neg he, if_neg (by simp_all), if_pos (by assumption), hM]; cases hq : numAt s (kK - iI) iI 0 <;> first | (simp_all; done) | (dsimp only; rw [if_neg (by rintro ⟨hx, _⟩; omega)]; simp_all; done) | (simp_all; omega)))
                  · have h24n := h24; try simp only [dtt, dff, bqi, bqf, bni, bnf, nt1, nf1, nt0, nf0, ne_eq, ilt, ile, Int.toNat_natCast] at h24n
                    refine AW.skip ?_
                    refine thenN ?_
                    refine AW.seq ?_
                    refine AW.region ?_
                    refine AL.go (OpR.plain rfl (r_move rfl (nb rfl) (by rintro _ ⟨⟩))) ?_
                    refine AL.go (OpR.plain rfl (r_move rfl (nb rfl) (by rintro _ ⟨⟩))) ?_
                    refine AL.go (OpR.plain rfl (r_build pl_53 rfl zc_53 rfl rfl (by simp only [fillC, putAt, gez, ges, if_true, and_self, Nat.reduceLeDiff, true_and, tks, tkz, tkn, dps, dpz, cap, nap, apn, lnc, lnn, zad, Nat.reduceAdd, adz]; rfl) (nb rfl))) ?_
                    refine AL.go (OpR.plain rfl (r_move rfl (nb rfl) (by rintro _ ⟨⟩))) ?_
                    refine AL.go (OpR.plain rfl (r_move rfl (nb rfl) (by rintro _ ⟨⟩))) ?_
                    refine AL.go (OpR.plain rfl (r_lens un_9 rfl (nb rfl))) ?_
                    refine AL.go (OpR.plain rfl (r_add rfl rfl (nb rfl) (by first | omega | (simp only [Int.toNat_natCast] at *; omega)) (by first | omega | (simp only [Int.toNat_natCast] at *; omega)))) ?_
                    refine AL.go (OpR.plain rfl (r_storeN ti_53 rfl rfl rfl rfl rfl (nb rfl) (by simp only [putAt, tks, tkz, tkn, dps, dpz, cap, nap, apn, lnc, lnn, zad, Nat.reduceAdd, adz]; rfl) (by rintro _ ⟨⟩))) ?_
                    refine AL.go (OpR.plain rfl (r_assign rfl (nb rfl) (by rintro _ ⟨⟩))) ?_
                    refine AL.go (OpR.plain rfl (r_assign rfl (nb rfl) (by rintro _ ⟨⟩; rfl))) ?_
                    refine AL.nil ?_
                    refine thenN ?_
                    refine AW.ret ?_
                    refine fin_id (.inr rfl) (ends_of rfl (.cell ti_53 rfl rfl (by simp only [loaded, if_true, ler, tks, tkz, tkn, dps, dpz, cap, nap, apn, lnc, lnn, zad, Nat.reduceAdd, adz]; rfl) (.tmp rfl (.tmp rfl .nil)))) ?_ .nil rfl rfl rfl rfl
                    simp only [retA]
                    first | (exfalso; omega) | (refine A.le_of_eq ?_; simp only [oneM, hB]; by_cases he : iI = s.size <;> first | (exfalso; omega) | (simp_all; done) | (simp only [if_neg he, textM_fix]; simp_all; done) | (rw [if_neg he, if_pos (by assumption), hM]; first | (rw [if_pos (by omega)]; done) | (rw [if_neg (by omega)]; simp_all; done)) | (rw [if_neg he, if_neg (by simp_all), if_pos (by assumption), hM]; cases hq : numAt s (kK - iI) iI 0 <;> first | (simp_all; done) | (dsimp only; rw [if_neg (by rintro ⟨hx, _⟩; omega)]; simp_all; done) | (simp_all; omega)))
      · have h3n := h3; try simp only [dtt, dff, bqi, bqf, bni, bnf, nt1, nf1, nt0, nf0, ne_eq, ilt, ile, Int.toNat_natCast] at h3n
        refine AL.go (.off rfl rfl (nb rfl) rfl (by rw [h3]; decide) rfl (nb rfl)) ?_
        refine AL.go (.off rfl rfl (nb rfl) rfl (by rw [h3]; decide) rfl (nb rfl)) ?_
        refine AL.go (.off rfl rfl (nb rfl) rfl (by rw [h3]; decide) rfl (nb rfl)) ?_
        refine AL.go (.off rfl rfl (nb rfl) rfl (by rw [h3]; decide) rfl (nb rfl)) ?_
        refine AL.go (OpR.plain rfl (r_pickFb rfl (h3) rfl (nb rfl) (by rintro _ ⟨⟩; rfl))) ?_
        refine AL.nil ?_
        refine thenN ?_
        refine AW.condF rfl (rfl) ?_
        refine AW.exit ?_
        refine thenX ?_
        refine thenX ?_
        refine inbE ?_
        refine thenN ?_
        refine AW.seq ?_
        refine AW.seq ?_
        refine AW.region ?_
        have hB : runOf isBlank s a = iI := hI.stop (by first | (left; omega) | (right; assumption))
        have hsz := signM_size s iI
        refine AL.go (OpR.plain rfl (r_move rfl (nb rfl) (by rintro _ ⟨⟩))) ?_
        refine AL.go (OpR.plain rfl (r_move rfl (nb rfl) (by rintro _ ⟨⟩))) ?_
        refine AL.go (OpR.plain rfl (r_lens un_9 rfl (nb rfl))) ?_
        refine AL.go (OpR.plain rfl (r_bin rfl rfl (nb rfl) rfl (run_int_eql _ _ _))) ?_
        refine AL.nil ?_
        refine thenN ?_
        refine AW.condb rfl (fun h25 => ?_) (fun h25 => ?_)
        · have h25n := h25; try simp only [dtt, dff, bqi, bqf, bni, bnf, nt1, nf1, nt0, nf0, ne_eq, ilt, ile, Int.toNat_natCast] at h25n
          refine AW.seq ?_
          refine AW.region ?_
          refine AL.go (OpR.plain rfl (r_move rfl (nb rfl) (by rintro _ ⟨⟩))) ?_
          refine AL.go (OpR.plain rfl (r_build pl_53 rfl zc_53 rfl rfl (by simp only [fillC, putAt, gez, ges, if_true, and_self, Nat.reduceLeDiff, true_and, tks, tkz, tkn, dps, dpz, cap, nap, apn, lnc, lnn, zad, Nat.reduceAdd, adz]; rfl) (nb rfl))) ?_
          refine AL.go (OpR.plain rfl (r_move rfl (nb rfl) (by rintro _ ⟨⟩))) ?_
          refine AL.go (OpR.plain rfl (r_storeN ti_53 rfl rfl rfl rfl rfl (nb rfl) (by simp only [putAt, tks, tkz, tkn, dps, dpz, cap, nap, apn, lnc, lnn, zad, Nat.reduceAdd, adz]; rfl) (by rintro _ ⟨⟩))) ?_
          refine AL.go (OpR.plain rfl (r_assign rfl (nb rfl) (by rintro _ ⟨⟩))) ?_
          refine AL.go (OpR.plain rfl (r_assign rfl (nb rfl) (by rintro _ ⟨⟩; rfl))) ?_
          refine AL.nil ?_
          refine thenN ?_
          refine AW.ret ?_
          refine thenR ?_
          refine fin_id (.inr rfl) (ends_of rfl (.cell ti_53 rfl rfl (by simp only [loaded, if_true, ler, tks, tkz, tkn, dps, dpz, cap, nap, apn, lnc, lnn, zad, Nat.reduceAdd, adz]; rfl) (.tmp rfl (.tmp rfl .nil)))) ?_ .nil rfl rfl rfl rfl
          simp only [retA]
          first | (exfalso; omega) | (refine A.le_of_eq ?_; simp only [oneM, hB]; by_cases he : iI = s.size <;> first | (exfalso; omega) | (simp_all; done) | (simp only [if_neg he, textM_fix]; simp_all; done) | (rw [if_neg he, if_pos (by assumption), hM]; first | (rw [if_pos (by omega)]; done) | (rw [if_neg (by omega)]; simp_all; done)) | (rw [if_neg he, if_neg (by simp_all), if_pos (by assumption), hM]; cases hq : numAt s (kK - iI) iI 0 <;> first | (simp_all; done) | (dsimp only; rw [if_neg (by rintro ⟨hx, _⟩; omega)]; simp_all; done) | (simp_all; omega)))
        · have h25n := h25; try simp only [dtt, dff, bqi, bqf, bni, bnf, nt1, nf1, nt0, nf0, ne_eq, ilt, ile, Int.toNat_natCast] at h25n
          refine AW.skip ?_
          refine thenN ?_
          refine AW.seq ?_
          refine AW.region ?_
          refine AL.go (OpR.plain rfl (r_move rfl (nb rfl) (by rintro _ ⟨⟩))) ?_
          refine AL.go (OpR.plain rfl (r_assign rfl (nb rfl) (by rintro _ ⟨⟩))) ?_
          refine AL.nil ?_
          refine thenN ?_
          refine AW.seq ?_
          refine AW.seq ?_
          refine AW.region ?_
          refine AL.go (OpR.plain rfl (r_move rfl (nb rfl) (by rintro _ ⟨⟩))) ?_
          refine AL.go (OpR.plain rfl (r_move rfl (nb rfl) (by rintro _ ⟨⟩))) ?_
          refine AL.go (OpR.plain rfl (r_byteD un_9 rfl rfl (nb rfl) (by first | omega | (simp only [Int.toNat_natCast] at *; omega)) (by first | omega | (simp only [Int.toNat_natCast] at *; omega)))) ?_
          refine AL.go (OpR.plain rfl (r_callFun (rletter_s _) en_50 rfl rfl rfl rfl (.cons (A.le_refl _) .nil) rfl (nb rfl))) ?_
          refine AL.nil ?_
          refine thenN ?_
          refine AW.condb rfl (fun h26 => ?_) (fun h26 => ?_)
          · have h26n := h26; try simp only [dtt, dff, bqi, bqf, bni, bnf, nt1, nf1, nt0, nf0, ne_eq, ilt, ile, Int.toNat_natCast] at h26n
            refine AW.seq ?_
            refine AW.block ?_
            refine AW.loop (ι := { x : Nat // ScI nmc s iI x }) (fun x => ⟨[(0, A.val (.string s)), (1, A.i64 (a : Int)), (4, A.c (.ref 101 0)), (7, A.i64 (iI : Int)), (8, A.i64 (x.1 : Int))], [(101, .box [.d (.v (.int .i64 0)), .d (.v (.string { data := #[] })), .d (.v (.int .i64 0)), .d (.v (.int .i64 0))])], []⟩) (fun x => s.size - x.1) ⟨iI, ⟨ler _, by omega, rfl⟩⟩ (weakens_id (.cons rfl (A.le_of_eq (by first | rfl | (simp [A.ren, C.ren, renOf, lk]; done) | (simp [A.ren, C.ren, renOf, lk]; omega) | omega)) (.cons rfl (A.le_of_eq (by first | rfl | (simp [A.ren, C.ren, renOf, lk]; done) | (simp [A.ren, C.ren, renOf, lk]; omega) | omega)) (.cons rfl (A.le_of_eq (by first | rfl | (simp [A.ren, C.ren, renOf, lk]; done) | (simp [A.ren, C.ren, renOf, lk]; omega) | omega)) (.cons rfl (A.le_of_eq (by first | rfl | (simp [A.ren, C.ren, renOf, lk]; done) | (simp [A.ren, C.ren, renOf, lk]; omega) | omega)) (.cons rfl (A.le_of_eq (by first | rfl | (simp [A.ren, C.ren, renOf, lk]; done) | (simp [A.ren, C.ren, renOf, lk]; omega) | omega)) .nil))))) (.cons rfl (Ob.le_refl _) .nil) rfl rfl rfl rfl) ?_
            rintro ⟨kK, hJ⟩
            have hJa := hJ.lo; have hJb := hJ.hi
            show AW _ _ (⟨[(0, A.val (.string s)), (1, A.i64 (a : Int)), (4, A.c (.ref 101 0)), (7, A.i64 (iI : Int)), (8, A.i64 (kK : Int))], [(101, .box [.d (.v (.int .i64 0)), .d (.v (.string { data := #[] })), .d (.v (.int .i64 0)), .d (.v (.int .i64 0))])], []⟩ : St) _
            refine AW.seq ?_
            refine AW.seq ?_
            refine AW.region ?_
            refine AL.go (OpR.plain rfl (r_move rfl (nb rfl) (by rintro _ ⟨⟩))) ?_
            refine AL.go (OpR.plain rfl (r_move rfl (nb rfl) (by rintro _ ⟨⟩))) ?_
            refine AL.go (OpR.plain rfl (r_lens un_9 rfl (nb rfl))) ?_
            refine AL.go (OpR.plain rfl (r_bin rfl rfl (nb rfl) rfl (run_int_lss _ _ _))) ?_
            refine AL.go (OpR.plain rfl (r_move rfl (nb rfl) (by rintro _ ⟨⟩))) ?_
            refine AL.ifb (t := 49) rfl (fun h27 => ?_) (fun h27 => ?_)
            · have h27n := h27; try simp only [dtt, dff, bqi, bqf, bni, bnf, nt1, nf1, nt0, nf0, ne_eq, ilt, ile, Int.toNat_natCast] at h27n
              refine AL.go (OpR.onb rfl rfl (nb rfl) rfl (h27) (r_move rfl (nb rfl) (by rintro _ ⟨⟩))) ?_
              refine AL.go (OpR.onb rfl rfl (nb rfl) rfl (h27) (r_move rfl (nb rfl) (by rintro _ ⟨⟩))) ?_
              refine AL.go (OpR.onb rfl rfl (nb rfl) rfl (h27) (r_byteD un_9 rfl rfl (nb rfl) (by first | omega | (simp only [Int.toNat_natCast] at *; omega)) (by first | omega | (simp only [Int.toNat_natCast] at *; omega)))) ?_
              refine AL.go (OpR.onb rfl rfl (nb rfl) rfl (h27) (r_callFun (rletter_s _) en_50 rfl rfl rfl rfl (.cons (A.le_refl _) .nil) rfl (nb rfl))) ?_
              refine AL.go (OpR.onb rfl rfl (nb rfl) rfl (h27) (r_move rfl (nb rfl) (by rintro _ ⟨⟩))) ?_
              refine AL.ifb (t := 54) rfl (fun h28 => ?_) (fun h28 => ?_)
              · have h28n := h28; try simp only [dtt, dff, bqi, bqf, bni, bnf, nt1, nf1, nt0, nf0, ne_eq, ilt, ile, Int.toNat_natCast] at h28n
                refine AL.go (.off rfl rfl (nb rfl) rfl (by rw [h28]; decide) rfl (nb rfl)) ?_
                refine AL.go (.off rfl rfl (nb rfl) rfl (by rw [h28]; decide) rfl (nb rfl)) ?_
                refine AL.go (.off rfl rfl (nb rfl) rfl (by rw [h28]; decide) rfl (nb rfl)) ?_
                refine AL.go (.off rfl rfl (nb rfl) rfl (by rw [h28]; decide) rfl (nb rfl)) ?_
                refine AL.go (OpR.onb rfl rfl (nb rfl) rfl (h27) (r_pickTb rfl (h28) rfl (nb rfl) (by rintro _ ⟨⟩; rfl))) ?_
                refine AL.go (OpR.plain rfl (r_pickTb rfl (h27) rfl (nb rfl) (by rintro _ ⟨⟩))) ?_
                refine AL.nil ?_
                refine thenN ?_
                refine AW.condT rfl (rfl) ?_
                refine AW.skip ?_
                refine thenN ?_
                refine AW.block ?_
                refine AW.region ?_
                refine AL.go (OpR.plain rfl (r_move rfl (nb rfl) (by rintro _ ⟨⟩))) ?_
                refine AL.go (OpR.plain rfl (r_add rfl rfl (nb rfl) (by first | omega | (simp only [Int.toNat_natCast] at *; omega)) (by first | omega | (simp only [Int.toNat_natCast] at *; omega)))) ?_
                refine AL.go (OpR.plain rfl (r_assign rfl (nb rfl) (by rintro _ ⟨⟩))) ?_
                refine AL.nil ?_
                refine inbN ?_
                refine thenN ?_
                refine ⟨⟨kK + 1, hJ.next (by omega) (by simp only [nmc, Bool.or_eq_true]; first | (left; assumption) | (right; assumption))⟩, by simp only; omega, weakens_id (.cons rfl (A.le_of_eq (by first | rfl | (simp [A.ren, C.ren, renOf, lk]; done) | (simp [A.ren, C.ren, renOf, lk]; omega) | omega)) (.cons rfl (A.le_of_eq (by first | rfl | (simp [A.ren, C.ren, renOf, lk]; done) | (simp [A.ren, C.ren, renOf, lk]; omega) | omega)) (.cons rfl (A.le_of_eq (by first | rfl | (simp [A.ren, C.ren, renOf, lk]; done) | (simp [A.ren, C.ren, renOf, lk]; omega) | omega)) (.cons rfl (A.le_of_eq (by first | rfl | (simp [A.ren, C.ren, renOf, lk]; done) | (simp [A.ren, C.ren, renOf, lk]; omega) | omega)) (.cons rfl (A.le_of_eq (by first | rfl | (simp [A.ren, C.ren, renOf, lk]; done) | (simp [A.ren, C.ren, renOf, lk]; omega) | omega)) .nil))))) (.cons rfl (Ob.le_refl _) .nil) rfl rfl rfl rfl⟩
              · have h28n := h28; try simp only [dtt, dff, bqi, bqf, bni, bnf, nt1, nf1, nt0, nf0, ne_eq, ilt, ile, Int.toNat_natCast] at h28n
                refine AL.go (OpR.onb rfl rfl (nb rfl) rfl (h28) (r_move rfl (nb rfl) (by rintro _ ⟨⟩))) ?_
                refine AL.go (OpR.onb rfl rfl (nb rfl) rfl (h28) (r_move rfl (nb rfl) (by rintro _ ⟨⟩))) ?_
                refine AL.go (OpR.onb rfl rfl (nb rfl) rfl (h28) (r_byteD un_9 rfl rfl (nb rfl) (by first | omega | (simp only [Int.toNat_natCast] at *; omega)) (by first | omega | (simp only [Int.toNat_natCast] at *; omega)))) ?_
                refine AL.go (OpR.onb rfl rfl (nb rfl) rfl (h28) (r_callFun (rdigit_s _) en_51 rfl rfl rfl rfl (.cons (A.le_refl _) .nil) rfl (nb rfl))) ?_
                refine AL.go (OpR.onb rfl rfl (nb rfl) rfl (h27) (r_pickFb rfl (h28) rfl (nb rfl) (by rintro _ ⟨⟩))) ?_
                refine AL.go (OpR.plain rfl (r_pickTb rfl (h27) rfl (nb rfl) (by rintro _ ⟨⟩))) ?_
                refine AL.nil ?_
                refine thenN ?_
                refine AW.condb rfl (fun h29 => ?_) (fun h29 => ?_)
                · have h29n := h29; try simp only [dtt, dff, bqi, bqf, bni, bnf, nt1, nf1, nt0, nf0, ne_eq, ilt, ile, Int.toNat_natCast] at h29n
                  refine AW.skip ?_
                  refine thenN ?_
                  refine AW.block ?_
                  refine AW.region ?_
                  refine AL.go (OpR.plain rfl (r_move rfl (nb rfl) (by rintro _ ⟨⟩))) ?_
                  refine AL.go (OpR.plain rfl (r_add rfl rfl (nb rfl) (by first | omega | (simp only [Int.toNat_natCast] at *; omega)) (by first | omega | (simp only [Int.toNat_natCast] at *; omega)))) ?_
                  refine AL.go (OpR.plain rfl (r_assign rfl (nb rfl) (by rintro _ ⟨⟩))) ?_
                  refine AL.nil ?_
                  refine inbN ?_
                  refine thenN ?_
                  refine ⟨⟨kK + 1, hJ.next (by omega) (by simp only [nmc, Bool.or_eq_true]; first | (left; assumption) | (right; assumption))⟩, by simp only; omega, weakens_id (.cons rfl (A.le_of_eq (by first | rfl | (simp [A.ren, C.ren, renOf, lk]; done) | (simp [A.ren, C.ren, renOf, lk]; omega) | omega)) (.cons rfl (A.le_of_eq (by first | rfl | (simp [A.ren, C.ren, renOf, lk]; done) | (simp [A.ren, C.ren, renOf, lk]; omega) | omega)) (.cons rfl (A.le_of_eq (by first | rfl | (simp [A.ren, C.ren, renOf, lk]; done) | (simp [A.ren, C.ren, renOf, lk]; omega) | omega)) (.cons rfl (A.le_of_eq (by first | rfl | (simp [A.ren, C.ren, renOf, lk]; done) | (simp [A.ren, C.ren, renOf, lk]; omega) | omega)) (.cons rfl (A.le_of_eq (by first | rfl | (simp [A.ren, C.ren, renOf, lk]; done) | (simp [A.ren, C.ren, renOf, lk]; omega) | omega)) .nil))))) (.cons rfl (Ob.le_refl _) .nil) rfl rfl rfl rfl⟩
                · have h29n := h29; try simp only [dtt, dff, bqi, bqf, bni, bnf, nt1, nf1, nt0, nf0, ne_eq, ilt, ile, Int.toNat_natCast] at h29n
                  refine AW.exit ?_
                  refine thenX ?_
                  refine thenX ?_
                  refine inbE ?_
                  refine thenN ?_
                  refine AW.seq ?_
                  refine AW.seq ?_
                  refine AW.region ?_
                  have hN : runOf nmc s iI = kK := hJ.stop (by simp only [nmc, Bool.or_eq_false_iff]; first | (left; omega) | (right; exact ⟨by assumption, by assumption⟩))
                  have hM := nameM_fix hN (by omega) a
                  refine AL.go (OpR.plain rfl (r_move rfl (nb rfl) (by rintro _ ⟨⟩))) ?_
                  refine AL.go (OpR.plain rfl (r_move rfl (nb rfl) (by rintro _ ⟨⟩))) ?_
                  refine AL.go (OpR.plain rfl (r_sub rfl rfl (nb rfl) (by first | omega | (simp only [Int.toNat_natCast] at *; omega)) (by first | omega | (simp only [Int.toNat_natCast] at *; omega)))) ?_
                  refine AL.go (OpR.plain rfl (r_bin rfl rfl (nb rfl) rfl (run_int_gtr _ _ _))) ?_
                  refine AL.nil ?_
                  refine thenN ?_
                  refine AW.condb rfl (fun h30 => ?_) (fun h30 => ?_)
                  · have h30n := h30; try simp only [dtt, dff, bqi, bqf, bni, bnf, nt1, nf1, nt0, nf0, ne_eq, ilt, ile, Int.toNat_natCast] at h30n
                    refine AW.seq ?_
                    refine AW.region ?_
                    refine AL.go (OpR.plain rfl (r_build pl_53 rfl zc_53 rfl rfl (by simp only [fillC, putAt, gez, ges, if_true, and_self, Nat.reduceLeDiff, true_and, tks, tkz, tkn, dps, dpz, cap, nap, apn, lnc, lnn, zad, Nat.reduceAdd, adz]; rfl) (nb rfl))) ?_
                    refine AL.go (OpR.plain rfl (r_move rfl (nb rfl) (by rintro _ ⟨⟩))) ?_
                    refine AL.go (OpR.plain rfl (r_storeN ti_53 rfl rfl rfl rfl rfl (nb rfl) (by simp only [putAt, tks, tkz, tkn, dps, dpz, cap, nap, apn, lnc, lnn, zad, Nat.reduceAdd, adz]; rfl) (by rintro _ ⟨⟩))) ?_
                    refine AL.go (OpR.plain rfl (r_assign rfl (nb rfl) (by rintro _ ⟨⟩))) ?_
                    refine AL.go (OpR.plain rfl (r_assign rfl (nb rfl) (by rintro _ ⟨⟩; rfl))) ?_
                    refine AL.nil ?_
                    refine thenN ?_
                    refine AW.ret ?_
                    refine thenR ?_
                    refine thenR ?_
                    refine fin_id (.inr rfl) (ends_of rfl (.cell ti_53 rfl rfl (by simp only [loaded, if_true, ler, tks, tkz, tkn, dps, dpz, cap, nap, apn, lnc, lnn, zad, Nat.reduceAdd, adz]; rfl) (.tmp rfl (.tmp rfl .nil)))) ?_ .nil rfl rfl rfl rfl
                    simp only [retA]
                    first | (exfalso; omega) | (refine A.le_of_eq ?_; simp only [oneM, hB]; by_cases he : iI = s.size <;> first | (exfalso; omega) | (simp_all; done) | (simp only [if_neg he, textM_fix]; simp_all; done) | (rw [if_neg he, if_pos (by assumption), hM]; first | (rw [if_pos (by omega)]; done) | (rw [if_neg (by omega)]; simp_all; done)) | (rw [if_neg he, if_neg (by simp_all), if_pos (by assumption), hM]; cases hq : numAt s (kK - iI) iI 0 <;> first | (simp_all; done) | (dsimp only; rw [if_neg (by rintro ⟨hx, _⟩; omega)]; simp_all; done) | (simp_all; omega)))
                  · have h30n := h30; try simp only [dtt, dff, bqi, bqf, bni, bnf, nt1, nf1, nt0, nf0, ne_eq, ilt, ile, Int.toNat_natCast] at h30n
                    refine AW.skip ?_
                    refine thenN ?_
                    refine AW.seq ?_
                    refine AW.seq ?_
                    refine AW.region ?_
                    refine AL.go (OpR.plain rfl (r_move rfl (nb rfl) (by rintro _ ⟨⟩))) ?_
                    refine AL.go (OpR.plain rfl (r_move rfl (nb rfl) (by rintro _ ⟨⟩))) ?_
                    refine AL.go (OpR.plain rfl (r_move rfl (nb rfl) (by rintro _ ⟨⟩))) ?_
                    refine AL.go (OpR.plain rfl (r_substr un_9 rfl rfl rfl (nb rfl) (by first | omega | (simp only [Int.toNat_natCast] at *; omega)) (by first | omega | (simp only [Int.toNat_natCast] at *; omega)) (by first | omega | (simp only [Int.toNat_natCast] at *; omega)))) ?_
                    refine AL.go (OpR.plain rfl (r_callFun (rword_s _) en_52 rfl rfl rfl rfl (.cons (A.le_refl _) .nil) rfl (nb rfl))) ?_
                    refine AL.nil ?_
                    refine thenN ?_
                    refine AW.condb rfl (fun h31 => ?_) (fun h31 => ?_)
                    · have h31n := h31; try simp only [dtt, dff, bqi, bqf, bni, bnf, nt1, nf1, nt0, nf0, ne_eq, ilt, ile, Int.toNat_natCast] at h31n
                      refine AW.seq ?_
                      refine AW.region ?_
                      refine AL.go (OpR.plain rfl (r_move rfl (nb rfl) (by rintro _ ⟨⟩))) ?_
                      refine AL.go (OpR.plain rfl (r_move rfl (nb rfl) (by rintro _ ⟨⟩))) ?_
                      refine AL.go (OpR.plain rfl (r_move rfl (nb rfl) (by rintro _ ⟨⟩))) ?_
                      refine AL.go (OpR.plain rfl (r_substr un_9 rfl rfl rfl (nb rfl) (by first | omega | (simp only [Int.toNat_natCast] at *; omega)) (by first | omega | (simp only [Int.toNat_natCast] at *; omega)) (by first | omega | (simp only [Int.toNat_natCast] at *; omega)))) ?_
                      refine AL.go (OpR.plain rfl (r_move rfl (nb rfl) (by rintro _ ⟨⟩))) ?_
                      refine AL.go (OpR.plain rfl (r_build pl_53 rfl zc_53 rfl rfl (by simp only [fillC, putAt, gez, ges, if_true, and_self, Nat.reduceLeDiff, true_and, tks, tkz, tkn, dps, dpz, cap, nap, apn, lnc, lnn, zad, Nat.reduceAdd, adz]; rfl) (nb rfl))) ?_
                      refine AL.go (OpR.plain rfl (r_move rfl (nb rfl) (by rintro _ ⟨⟩))) ?_
                      refine AL.go (OpR.plain rfl (r_storeN ti_53 rfl rfl rfl rfl rfl (nb rfl) (by simp only [putAt, tks, tkz, tkn, dps, dpz, cap, nap, apn, lnc, lnn, zad, Nat.reduceAdd, adz]; rfl) (by rintro _ ⟨⟩))) ?_
                      refine AL.go (OpR.plain rfl (r_assign rfl (nb rfl) (by rintro _ ⟨⟩))) ?_
                      refine AL.go (OpR.plain rfl (r_assign rfl (nb rfl) (by rintro _ ⟨⟩; rfl))) ?_
                      refine AL.nil ?_
                      refine thenN ?_
                      refine AW.ret ?_
                      refine thenR ?_
                      refine thenR ?_
                      refine fin_id (.inr rfl) (ends_of rfl (.cell ti_53 rfl rfl (by simp only [loaded, if_true, ler, tks, tkz, tkn, dps, dpz, cap, nap, apn, lnc, lnn, zad, Nat.reduceAdd, adz]; rfl) (.tmp rfl (.tmp rfl .nil)))) ?_ .nil rfl rfl rfl rfl
                      simp only [retA]
                      first | (exfalso; omega) | (refine A.le_of_eq ?_; simp only [oneM, hB]; by_cases he : iI = s.size <;> first | (exfalso; omega) | (simp_all; done) | (simp only [if_neg he, textM_fix]; simp_all; done) | (rw [if_neg he, if_pos (by assumption), hM]; first | (rw [if_pos (by omega)]; done) | (rw [if_neg (by omega)]; simp_all; done)) | (rw [if_neg he, if_neg (by simp_all), if_pos (by assumption), hM]; cases hq : numAt s (kK - iI) iI 0 <;> first | (simp_all; done) | (dsimp only; rw [if_neg (by rintro ⟨hx, _⟩; omega)]; simp_all; done) | (simp_all; omega)))
                    · have h31n := h31; try simp only [dtt, dff, bqi, bqf, bni, bnf, nt1, nf1, nt0, nf0, ne_eq, ilt, ile, Int.toNat_natCast] at h31n
                      refine AW.skip ?_
                      refine thenN ?_
                      refine AW.seq ?_
                      refine AW.region ?_
                      refine AL.go (OpR.plain rfl (r_move rfl (nb rfl) (by rintro _ ⟨⟩))) ?_
                      refine AL.go (OpR.plain rfl (r_move rfl (nb rfl) (by rintro _ ⟨⟩))) ?_
                      refine AL.go (OpR.plain rfl (r_move rfl (nb rfl) (by rintro _ ⟨⟩))) ?_
                      refine AL.go (OpR.plain rfl (r_substr un_9 rfl rfl rfl (nb rfl) (by first | omega | (simp only [Int.toNat_natCast] at *; omega)) (by first | omega | (simp only [Int.toNat_natCast] at *; omega)) (by first | omega | (simp only [Int.toNat_natCast] at *; omega)))) ?_
                      refine AL.go (OpR.plain rfl (r_move rfl (nb rfl) (by rintro _ ⟨⟩))) ?_
                      refine AL.go (OpR.plain rfl (r_build pl_53 rfl zc_53 rfl rfl (by simp only [fillC, putAt, gez, ges, if_true, and_self, Nat.reduceLeDiff, true_and, tks, tkz, tkn, dps, dpz, cap, nap, apn, lnc, lnn, zad, Nat.reduceAdd, adz]; rfl) (nb rfl))) ?_
                      refine AL.go (OpR.plain rfl (r_move rfl (nb rfl) (by rintro _ ⟨⟩))) ?_
                      refine AL.go (OpR.plain rfl (r_storeN ti_53 rfl rfl rfl rfl rfl (nb rfl) (by simp only [putAt, tks, tkz, tkn, dps, dpz, cap, nap, apn, lnc, lnn, zad, Nat.reduceAdd, adz]; rfl) (by rintro _ ⟨⟩))) ?_
                      refine AL.go (OpR.plain rfl (r_assign rfl (nb rfl) (by rintro _ ⟨⟩))) ?_
                      refine AL.go (OpR.plain rfl (r_assign rfl (nb rfl) (by rintro _ ⟨⟩; rfl))) ?_
                      refine AL.nil ?_
                      refine thenN ?_
                      refine AW.ret ?_
                      refine thenR ?_
                      refine fin_id (.inr rfl) (ends_of rfl (.cell ti_53 rfl rfl (by simp only [loaded, if_true, ler, tks, tkz, tkn, dps, dpz, cap, nap, apn, lnc, lnn, zad, Nat.reduceAdd, adz]; rfl) (.tmp rfl (.tmp rfl .nil)))) ?_ .nil rfl rfl rfl rfl
                      simp only [retA]
                      first | (exfalso; omega) | (refine A.le_of_eq ?_; simp only [oneM, hB]; by_cases he : iI = s.size <;> first | (exfalso; omega) | (simp_all; done) | (simp only [if_neg he, textM_fix]; simp_all; done) | (rw [if_neg he, if_pos (by assumption), hM]; first | (rw [if_pos (by omega)]; done) | (rw [if_neg (by omega)]; simp_all; done)) | (rw [if_neg he, if_neg (by simp_all), if_pos (by assumption), hM]; cases hq : numAt s (kK - iI) iI 0 <;> first | (simp_all; done) | (dsimp only; rw [if_neg (by rintro ⟨hx, _⟩; omega)]; simp_all; done) | (simp_all; omega)))
            · have h27n := h27; try simp only [dtt, dff, bqi, bqf, bni, bnf, nt1, nf1, nt0, nf0, ne_eq, ilt, ile, Int.toNat_natCast] at h27n
              refine AL.go (.off rfl rfl (nb rfl) rfl (by rw [h27]; decide) rfl (nb rfl)) ?_
              refine AL.go (.off rfl rfl (nb rfl) rfl (by rw [h27]; decide) rfl (nb rfl)) ?_
              refine AL.go (.off rfl rfl (nb rfl) rfl (by rw [h27]; decide) rfl (nb rfl)) ?_
              refine AL.go (.off rfl rfl (nb rfl) rfl (by rw [h27]; decide) rfl (nb rfl)) ?_
              refine AL.go (.off rfl rfl (nb rfl) rfl (by rw [h27]; decide) rfl (nb rfl)) ?_
              refine AL.go (.offU rfl rfl (nb rfl) rfl rfl (nb rfl)) ?_
              refine AL.go (.offU rfl rfl (nb rfl) rfl rfl (nb rfl)) ?_
              refine AL.go (.offU rfl rfl (nb rfl) rfl rfl (nb rfl)) ?_
              refine AL.go (.offU rfl rfl (nb rfl) rfl rfl (nb rfl)) ?_
              refine AL.go (.off rfl rfl (nb rfl) rfl (by rw [h27]; decide) rfl (nb rfl)) ?_
              refine AL.go (OpR.plain rfl (r_pickFb rfl (h27) rfl (nb rfl) (by rintro _ ⟨⟩; rfl))) ?_
              refine AL.nil ?_
              refine thenN ?_
              refine AW.condF rfl (rfl) ?_
              refine AW.exit ?_
              refine thenX ?_
              refine thenX ?_
              refine inbE ?_
              refine thenN ?_
              refine AW.seq ?_
              refine AW.seq ?_
              refine AW.region ?_
              have hN : runOf nmc s iI = kK := hJ.stop (by simp only [nmc, Bool.or_eq_false_iff]; first | (left; omega) | (right; exact ⟨by assumption, by assumption⟩))
              have hM := nameM_fix hN (by omega) a
              refine AL.go (OpR.plain rfl (r_move rfl (nb rfl) (by rintro _ ⟨⟩))) ?_
              refine AL.go (OpR.plain rfl (r_move rfl (nb rfl) (by rintro _ ⟨⟩))) ?_
              refine AL.go (OpR.plain rfl (r_sub rfl rfl (nb rfl) (by first | omega | (simp only [Int.toNat_natCast] at *; omega)) (by first | omega | (simp only [Int.toNat_natCast] at *; omega)))) ?_
              refine AL.go (OpR.plain rfl (r_bin rfl rfl (nb rfl) rfl (run_int_gtr _ _ _))) ?_
              refine AL.nil ?_
              refine thenN ?_
              refine AW.condb rfl (fun h32 => ?_) (fun h32 => ?_)
              · have h32n := h32; try simp only [dtt, dff, bqi, bqf, bni, bnf, nt1, nf1, nt0, nf0, ne_eq, ilt, ile, Int.toNat_natCast] at h32n
                refine AW.seq ?_
                refine AW.region ?_
                refine AL.go (OpR.plain rfl (r_build pl_53 rfl zc_53 rfl rfl (by simp only [fillC, putAt, gez, ges, if_true, and_self, Nat.reduceLeDiff, true_and, tks, tkz, tkn, dps, dpz, cap, nap, apn, lnc, lnn, zad, Nat.reduceAdd, adz]; rfl) (nb rfl))) ?_
                refine AL.go (OpR.plain rfl (r_move rfl (nb rfl) (by rintro _ ⟨⟩))) ?_
                refine AL.go (OpR.plain rfl (r_storeN ti_53 rfl rfl rfl rfl rfl (nb rfl) (by simp only [putAt, tks, tkz, tkn, dps, dpz, cap, nap, apn, lnc, lnn, zad, Nat.reduceAdd, adz]; rfl) (by rintro _ ⟨⟩))) ?_
                refine AL.go (OpR.plain rfl (r_assign rfl (nb rfl) (by rintro _ ⟨⟩))) ?_
                refine AL.go (OpR.plain rfl (r_assign rfl (nb rfl) (by rintro _ ⟨⟩; rfl))) ?_
                refine AL.nil ?_
                refine thenN ?_
                refine AW.ret ?_
                refine thenR ?_
                refine thenR ?_
                refine fin_id (.inr rfl) (ends_of rfl (.cell ti_53 rfl rfl (by simp only [loaded, if_true, ler, tks, tkz, tkn, dps, dpz, cap, nap, apn, lnc, lnn, zad, Nat.reduceAdd, adz]; rfl) (.tmp rfl (.tmp rfl .nil)))) ?_ .nil rfl rfl rfl rfl
                simp only [retA]
                first | (exfalso; omega) | (refine A.le_of_eq ?_; simp only [oneM, hB]; by_cases he : iI = s.size <;> first | (exfalso; omega) | (simp_all; done) | (simp only [if_neg he, textM_fix]; simp_all; done) | (rw [if_neg he, if_pos (by assumption), hM]; first | (rw [if_pos (by omega)]; done) | (rw [if_neg (by omega)]; simp_all; done)) | (rw [if_neg he, if_neg (by simp_all), if_pos (by assumption), hM]; cases hq : numAt s (kK - iI) iI 0 <;> first | (simp_all; done) | (dsimp only; rw [if_neg (by rintro ⟨hx, _⟩; omega)]; simp_all; done) | (simp_all; omega)))
              · have h32n := h32; try simp only [dtt, dff, bqi, bqf, bni, bnf, nt1, nf1, nt0, nf0, ne_eq, ilt, ile, Int.toNat_natCast] at h32n
                refine AW.skip ?_
                refine thenN ?_
                refine AW.seq ?_
                refine AW.seq ?_
                refine AW.region ?_
                refine AL.go (OpR.plain rfl (r_move rfl (nb rfl) (by rintro _ ⟨⟩))) ?_
                refine AL.go (OpR.plain rfl (r_move rfl (nb rfl) (by rintro _ ⟨⟩))) ?_
                refine AL.go (OpR.plain rfl (r_move rfl (nb rfl) (by rintro _ ⟨⟩))) ?_
                refine AL.go (OpR.plain rfl (r_substr un_9 rfl rfl rfl (nb rfl) (by first | omega | (simp only [Int.toNat_natCast] at *; omega)) (by first | omega | (simp only [Int.toNat_natCast] at *; omega)) (by first | omega | (simp only [Int.toNat_natCast] at *; omega)))) ?_
                refine AL.go (OpR.plain rfl (r_callFun (rword_s _) en_52 rfl rfl rfl rfl (.cons (A.le_refl _) .nil) rfl (nb rfl))) ?_
                refine AL.nil ?_
                refine thenN ?_
                refine AW.condb rfl (fun h33 => ?_) (fun h33 => ?_)
                · have h33n := h33; try simp only [dtt, dff, bqi, bqf, bni, bnf, nt1, nf1, nt0, nf0, ne_eq, ilt, ile, Int.toNat_natCast] at h33n
                  refine AW.seq ?_
                  refine AW.region ?_
                  refine AL.go (OpR.plain rfl (r_move rfl (nb rfl) (by rintro _ ⟨⟩))) ?_
                  refine AL.go (OpR.plain rfl (r_move rfl (nb rfl) (by rintro _ ⟨⟩))) ?_
                  refine AL.go (OpR.plain rfl (r_move rfl (nb rfl) (by rintro _ ⟨⟩))) ?_
                  refine AL.go (OpR.plain rfl (r_substr un_9 rfl rfl rfl (nb rfl) (by first | omega | (simp only [Int.toNat_natCast] at *; omega)) (by first | omega | (simp only [Int.toNat_natCast] at *; omega)) (by first | omega | (simp only [Int.toNat_natCast] at *; omega)))) ?_
                  refine AL.go (OpR.plain rfl (r_move rfl (nb rfl) (by rintro _ ⟨⟩))) ?_
                  refine AL.go (OpR.plain rfl (r_build pl_53 rfl zc_53 rfl rfl (by simp only [fillC, putAt, gez, ges, if_true, and_self, Nat.reduceLeDiff, true_and, tks, tkz, tkn, dps, dpz, cap, nap, apn, lnc, lnn, zad, Nat.reduceAdd, adz]; rfl) (nb rfl))) ?_
                  refine AL.go (OpR.plain rfl (r_move rfl (nb rfl) (by rintro _ ⟨⟩))) ?_
                  refine AL.go (OpR.plain rfl (r_storeN ti_53 rfl rfl rfl rfl rfl (nb rfl) (by simp only [putAt, tks, tkz, tkn, dps, dpz, cap, nap, apn, lnc, lnn, zad, Nat.reduceAdd, adz]; rfl) (by rintro _ ⟨⟩))) ?_
                  refine AL.go (OpR.plain rfl (r_assign rfl (nb rfl) (by rintro _ ⟨⟩))) ?_
                  refine AL.go (OpR.plain rfl (r_assign rfl (nb rfl) (by rintro _ ⟨⟩; rfl))) ?_
                  refine AL.nil ?_
                  refine thenN ?_
                  refine AW.ret ?_
                  refine thenR ?_
                  refine thenR ?_
                  refine fin_id (.inr rfl) (ends_of rfl (.cell ti_53 rfl rfl (by simp only [loaded, if_true, ler, tks, tkz, tkn, dps, dpz, cap, nap, apn, lnc, lnn, zad, Nat.reduceAdd, adz]; rfl) (.tmp rfl (.tmp rfl .nil)))) ?_ .nil rfl rfl rfl rfl
                  simp only [retA]
                  first | (exfalso; omega) | (refine A.le_of_eq ?_; simp only [oneM, hB]; by_cases he : iI = s.size <;> first | (exfalso; omega) | (simp_all; done) | (simp only [if_neg he, textM_fix]; simp_all; done) | (rw [if_neg he, if_pos (by assumption), hM]; first | (rw [if_pos (by omega)]; done) | (rw [if_neg (by omega)]; simp_all; done)) | (rw [if_neg he, if_neg (by simp_all), if_pos (by assumption), hM]; cases hq : numAt s (kK - iI) iI 0 <;> first | (simp_all; done) | (dsimp only; rw [if_neg (by rintro ⟨hx, _⟩; omega)]; simp_all; done) | (simp_all; omega)))
                · have h33n := h33; try simp only [dtt, dff, bqi, bqf, bni, bnf, nt1, nf1, nt0, nf0, ne_eq, ilt, ile, Int.toNat_natCast] at h33n
                  refine AW.skip ?_
                  refine thenN ?_
                  refine AW.seq ?_
                  refine AW.region ?_
                  refine AL.go (OpR.plain rfl (r_move rfl (nb rfl) (by rintro _ ⟨⟩))) ?_
                  refine AL.go (OpR.plain rfl (r_move rfl (nb rfl) (by rintro _ ⟨⟩))) ?_
                  refine AL.go (OpR.plain rfl (r_move rfl (nb rfl) (by rintro _ ⟨⟩))) ?_
                  refine AL.go (OpR.plain rfl (r_substr un_9 rfl rfl rfl (nb rfl) (by first | omega | (simp only [Int.toNat_natCast] at *; omega)) (by first | omega | (simp only [Int.toNat_natCast] at *; omega)) (by first | omega | (simp only [Int.toNat_natCast] at *; omega)))) ?_
                  refine AL.go (OpR.plain rfl (r_move rfl (nb rfl) (by rintro _ ⟨⟩))) ?_
                  refine AL.go (OpR.plain rfl (r_build pl_53 rfl zc_53 rfl rfl (by simp only [fillC, putAt, gez, ges, if_true, and_self, Nat.reduceLeDiff, true_and, tks, tkz, tkn, dps, dpz, cap, nap, apn, lnc, lnn, zad, Nat.reduceAdd, adz]; rfl) (nb rfl))) ?_
                  refine AL.go (OpR.plain rfl (r_move rfl (nb rfl) (by rintro _ ⟨⟩))) ?_
                  refine AL.go (OpR.plain rfl (r_storeN ti_53 rfl rfl rfl rfl rfl (nb rfl) (by simp only [putAt, tks, tkz, tkn, dps, dpz, cap, nap, apn, lnc, lnn, zad, Nat.reduceAdd, adz]; rfl) (by rintro _ ⟨⟩))) ?_
                  refine AL.go (OpR.plain rfl (r_assign rfl (nb rfl) (by rintro _ ⟨⟩))) ?_
                  refine AL.go (OpR.plain rfl (r_assign rfl (nb rfl) (by rintro _ ⟨⟩; rfl))) ?_
                  refine AL.nil ?_
                  refine thenN ?_
                  refine AW.ret ?_
                  refine thenR ?_
                  refine fin_id (.inr rfl) (ends_of rfl (.cell ti_53 rfl rfl (by simp only [loaded, if_true, ler, tks, tkz, tkn, dps, dpz, cap, nap, apn, lnc, lnn, zad, Nat.reduceAdd, adz]; rfl) (.tmp rfl (.tmp rfl .nil)))) ?_ .nil rfl rfl rfl rfl
                  simp only [retA]
                  first | (exfalso; omega) | (refine A.le_of_eq ?_; simp only [oneM, hB]; by_cases he : iI = s.size <;> first | (exfalso; omega) | (simp_all; done) | (simp only [if_neg he, textM_fix]; simp_all; done) | (rw [if_neg he, if_pos (by assumption), hM]; first | (rw [if_pos (by omega)]; done) | (rw [if_neg (by omega)]; simp_all; done)) | (rw [if_neg he, if_neg (by simp_all), if_pos (by assumption), hM]; cases hq : numAt s (kK - iI) iI 0 <;> first | (simp_all; done) | (dsimp only; rw [if_neg (by rintro ⟨hx, _⟩; omega)]; simp_all; done) | (simp_all; omega)))
          · have h26n := h26; try simp only [dtt, dff, bqi, bqf, bni, bnf, nt1, nf1, nt0, nf0, ne_eq, ilt, ile, Int.toNat_natCast] at h26n
            refine AW.skip ?_
            refine thenN ?_
            refine AW.seq ?_
            refine AW.seq ?_
            refine AW.region ?_
            refine AL.go (OpR.plain rfl (r_move rfl (nb rfl) (by rintro _ ⟨⟩))) ?_
            refine AL.go (OpR.plain rfl (r_move rfl (nb rfl) (by rintro _ ⟨⟩))) ?_
            refine AL.go (OpR.plain rfl (r_byteD un_9 rfl rfl (nb rfl) (by first | omega | (simp only [Int.toNat_natCast] at *; omega)) (by first | omega | (simp only [Int.toNat_natCast] at *; omega)))) ?_
            refine AL.go (OpR.plain rfl (r_callFun (rdigit_s _) en_51 rfl rfl rfl rfl (.cons (A.le_refl _) .nil) rfl (nb rfl))) ?_
            refine AL.nil ?_
            refine thenN ?_
            refine AW.condb rfl (fun h34 => ?_) (fun h34 => ?_)
            · have h34n := h34; try simp only [dtt, dff, bqi, bqf, bni, bnf, nt1, nf1, nt0, nf0, ne_eq, ilt, ile, Int.toNat_natCast] at h34n
              refine AW.seq ?_
              refine AW.block ?_
              refine AW.loop (ι := { x : Nat // ScI isDigit s iI x }) (fun x => ⟨[(0, A.val (.string s)), (1, A.i64 (a : Int)), (4, A.c (.ref 101 0)), (7, A.i64 (iI : Int)), (8, A.i64 (x.1 : Int))], [(101, .box [.d (.v (.int .i64 0)), .d (.v (.string { data := #[] })), .d (.v (.int .i64 0)), .d (.v (.int .i64 0))])], []⟩) (fun x => s.size - x.1) ⟨iI, ⟨ler _, by omega, rfl⟩⟩ (weakens_id (.cons rfl (A.le_of_eq (by first | rfl | (simp [A.ren, C.ren, renOf, lk]; done) | (simp [A.ren, C.ren, renOf, lk]; omega) | omega)) (.cons rfl (A.le_of_eq (by first | rfl | (simp [A.ren, C.ren, renOf, lk]; done) | (simp [A.ren, C.ren, renOf, lk]; omega) | omega)) (.cons rfl (A.le_of_eq (by first | rfl | (simp [A.ren, C.ren, renOf, lk]; done) | (simp [A.ren, C.ren, renOf, lk]; omega) | omega)) (.cons rfl (A.le_of_eq (by first | rfl | (simp [A.ren, C.ren, renOf, lk]; done) | (simp [A.ren, C.ren, renOf, lk]; omega) | omega)) (.cons rfl (A.le_of_eq (by first | rfl | (simp [A.ren, C.ren, renOf, lk]; done) | (simp [A.ren, C.ren, renOf, lk]; omega) | omega)) .nil))))) (.cons rfl (Ob.le_refl _) .nil) rfl rfl rfl rfl) ?_
              rintro ⟨kK, hJ⟩
              have hJa := hJ.lo; have hJb := hJ.hi
              show AW _ _ (⟨[(0, A.val (.string s)), (1, A.i64 (a : Int)), (4, A.c (.ref 101 0)), (7, A.i64 (iI : Int)), (8, A.i64 (kK : Int))], [(101, .box [.d (.v (.int .i64 0)), .d (.v (.string { data := #[] })), .d (.v (.int .i64 0)), .d (.v (.int .i64 0))])], []⟩ : St) _
              refine AW.seq ?_
              refine AW.seq ?_
              refine AW.region ?_
              refine AL.go (OpR.plain rfl (r_move rfl (nb rfl) (by rintro _ ⟨⟩))) ?_
              refine AL.go (OpR.plain rfl (r_move rfl (nb rfl) (by rintro _ ⟨⟩))) ?_
              refine AL.go (OpR.plain rfl (r_lens un_9 rfl (nb rfl))) ?_
              refine AL.go (OpR.plain rfl (r_bin rfl rfl (nb rfl) rfl (run_int_lss _ _ _))) ?_
              refine AL.go (OpR.plain rfl (r_move rfl (nb rfl) (by rintro _ ⟨⟩))) ?_
              refine AL.ifb (t := 96) rfl (fun h35 => ?_) (fun h35 => ?_)
              · have h35n := h35; try simp only [dtt, dff, bqi, bqf, bni, bnf, nt1, nf1, nt0, nf0, ne_eq, ilt, ile, Int.toNat_natCast] at h35n
                refine AL.go (OpR.onb rfl rfl (nb rfl) rfl (h35) (r_move rfl (nb rfl) (by rintro _ ⟨⟩))) ?_
                refine AL.go (OpR.onb rfl rfl (nb rfl) rfl (h35) (r_move rfl (nb rfl) (by rintro _ ⟨⟩))) ?_
                refine AL.go (OpR.onb rfl rfl (nb rfl) rfl (h35) (r_byteD un_9 rfl rfl (nb rfl) (by first | omega | (simp only [Int.toNat_natCast] at *; omega)) (by first | omega | (simp only [Int.toNat_natCast] at *; omega)))) ?_
                refine AL.go (OpR.onb rfl rfl (nb rfl) rfl (h35) (r_callFun (rdigit_s _) en_51 rfl rfl rfl rfl (.cons (A.le_refl _) .nil) rfl (nb rfl))) ?_
                refine AL.go (OpR.plain rfl (r_pickTb rfl (h35) rfl (nb rfl) (by rintro _ ⟨⟩))) ?_
                refine AL.nil ?_
                refine thenN ?_
                refine AW.condb rfl (fun h36 => ?_) (fun h36 => ?_)
                · have h36n := h36; try simp only [dtt, dff, bqi, bqf, bni, bnf, nt1, nf1, nt0, nf0, ne_eq, ilt, ile, Int.toNat_natCast] at h36n
                  refine AW.skip ?_
                  refine thenN ?_
                  refine AW.block ?_
                  refine AW.region ?_
                  refine AL.go (OpR.plain rfl (r_move rfl (nb rfl) (by rintro _ ⟨⟩))) ?_
                  refine AL.go (OpR.plain rfl (r_add rfl rfl (nb rfl) (by first | omega | (simp only [Int.toNat_natCast] at *; omega)) (by first | omega | (simp only [Int.toNat_natCast] at *; omega)))) ?_
                  refine AL.go (OpR.plain rfl (r_assign rfl (nb rfl) (by rintro _ ⟨⟩))) ?_
                  refine AL.nil ?_
                  refine inbN ?_
                  refine thenN ?_
                  refine ⟨⟨kK + 1, hJ.next (by omega) (by assumption)⟩, by simp only; omega, weakens_id (.cons rfl (A.le_of_eq (by first | rfl | (simp [A.ren, C.ren, renOf, lk]; done) | (simp [A.ren, C.ren, renOf, lk]; omega) | omega)) (.cons rfl (A.le_of_eq (by first | rfl | (simp [A.ren, C.ren, renOf, lk]; done) | (simp [A.ren, C.ren, renOf, lk]; omega) | omega)) (.cons rfl (A.le_of_eq (by first | rfl | (simp [A.ren, C.ren, renOf, lk]; done) | (simp [A.ren, C.ren, renOf, lk]; omega) | omega)) (.cons rfl (A.le_of_eq (by first | rfl | (simp [A.ren, C.ren, renOf, lk]; done) | (simp [A.ren, C.ren, renOf, lk]; omega) | omega)) (.cons rfl (A.le_of_eq (by first | rfl | (simp [A.ren, C.ren, renOf, lk]; done) | (simp [A.ren, C.ren, renOf, lk]; omega) | omega)) .nil))))) (.cons rfl (Ob.le_refl _) .nil) rfl rfl rfl rfl⟩
                · have h36n := h36; try simp only [dtt, dff, bqi, bqf, bni, bnf, nt1, nf1, nt0, nf0, ne_eq, ilt, ile, Int.toNat_natCast] at h36n
                  refine AW.exit ?_
                  refine thenX ?_
                  refine thenX ?_
                  refine inbE ?_
                  refine thenN ?_
                  refine AW.seq ?_
                  refine AW.region ?_
                  have hD : runOf isDigit s iI = kK := hJ.stop (by first | (left; omega) | (right; assumption))
                  have hNum := num_sub (s := s) (i := iI) (k := kK) (by omega)
                  have hM := numberM_fix hD a
                  refine AL.go (OpR.plain rfl (r_move rfl (nb rfl) (by rintro _ ⟨⟩))) ?_
                  refine AL.go (OpR.plain rfl (r_move rfl (nb rfl) (by rintro _ ⟨⟩))) ?_
                  refine AL.go (OpR.plain rfl (r_move rfl (nb rfl) (by rintro _ ⟨⟩))) ?_
                  refine AL.go (OpR.plain rfl (r_substr un_9 rfl rfl rfl (nb rfl) (by first | omega | (simp only [Int.toNat_natCast] at *; omega)) (by first | omega | (simp only [Int.toNat_natCast] at *; omega)) (by first | omega | (simp only [Int.toNat_natCast] at *; omega)))) ?_
                  refine AL.go (OpR.plain rfl (r_callFun (rnumber_s (s.extract iI kK) (by rw [ByteArray.size_extract]; omega) (dig_sub (by omega) hD)) en_53 rfl rfl rfl rfl (.cons (A.le_refl _) .nil) rfl (nb rfl))) ?_
                  refine AL.go (OpR.plain rfl (r_move rfl (nb rfl) (by rintro _ ⟨⟩))) ?_
                  refine AL.go (OpR.plain rfl (r_extract rfl rfl (nb rfl))) ?_
                  refine AL.go (OpR.plain rfl (r_extract rfl rfl (nb rfl))) ?_
                  refine AL.go (OpR.plain rfl (r_assign rfl (nb rfl) (by rintro _ ⟨⟩))) ?_
                  refine AL.go (OpR.plain rfl (r_assign rfl (nb rfl) (by rintro _ ⟨⟩))) ?_
                  refine AL.nil ?_
                  refine thenN ?_
                  refine AW.seq ?_
                  refine AW.seq ?_
                  refine AW.region ?_
                  refine AL.go (OpR.plain rfl (r_move rfl (nb rfl) (by rintro _ ⟨⟩))) ?_
                  refine AL.go (OpR.plain rfl (r_not rfl (nb rfl))) ?_
                  refine AL.go (OpR.plain rfl (r_move rfl (nb rfl) (by rintro _ ⟨⟩))) ?_
                  refine AL.ifb (t := 114) rfl (fun h37 => ?_) (fun h37 => ?_)
                  · have h37n := h37; try simp only [dtt, dff, bqi, bqf, bni, bnf, nt1, nf1, nt0, nf0, ne_eq, ilt, ile, Int.toNat_natCast] at h37n
                    refine AL.go (.off rfl rfl (nb rfl) rfl (by rw [h37]; decide) rfl (nb rfl)) ?_
                    refine AL.go (.off rfl rfl (nb rfl) rfl (by rw [h37]; decide) rfl (nb rfl)) ?_
                    refine AL.go (.off rfl rfl (nb rfl) rfl (by rw [h37]; decide) rfl (nb rfl)) ?_
                    refine AL.go (.off rfl rfl (nb rfl) rfl (by rw [h37]; decide) rfl (nb rfl)) ?_
                    refine AL.go (.off rfl rfl (nb rfl) rfl (by rw [h37]; decide) rfl (nb rfl)) ?_
                    refine AL.go (.offU rfl rfl (nb rfl) rfl rfl (nb rfl)) ?_
                    refine AL.go (.offU rfl rfl (nb rfl) rfl rfl (nb rfl)) ?_
                    refine AL.go (.offU rfl rfl (nb rfl) rfl rfl (nb rfl)) ?_
                    refine AL.go (.offU rfl rfl (nb rfl) rfl rfl (nb rfl)) ?_
                    refine AL.go (.off rfl rfl (nb rfl) rfl (by rw [h37]; decide) rfl (nb rfl)) ?_
                    refine AL.go (OpR.plain rfl (r_pickTb rfl (h37) rfl (nb rfl) (by rintro _ ⟨⟩; rfl))) ?_
                    refine AL.nil ?_
                    refine thenN ?_
                    refine AW.condT rfl (rfl) ?_
                    refine AW.seq ?_
                    refine AW.region ?_
                    refine AL.go (OpR.plain rfl (r_build pl_53 rfl zc_53 rfl rfl (by simp only [fillC, putAt, gez, ges, if_true, and_self, Nat.reduceLeDiff, true_and, tks, tkz, tkn, dps, dpz, cap, nap, apn, lnc, lnn, zad, Nat.reduceAdd, adz]; rfl) (nb rfl))) ?_
                    refine AL.go (OpR.plain rfl (r_move rfl (nb rfl) (by rintro _ ⟨⟩))) ?_
                    refine AL.go (OpR.plain rfl (r_storeN ti_53 rfl rfl rfl rfl rfl (nb rfl) (by simp only [putAt, tks, tkz, tkn, dps, dpz, cap, nap, apn, lnc, lnn, zad, Nat.reduceAdd, adz]; rfl) (by rintro _ ⟨⟩))) ?_
                    refine AL.go (OpR.plain rfl (r_assign rfl (nb rfl) (by rintro _ ⟨⟩))) ?_
                    refine AL.go (OpR.plain rfl (r_assign rfl (nb rfl) (by rintro _ ⟨⟩; rfl))) ?_
                    refine AL.nil ?_
                    refine thenN ?_
                    refine AW.ret ?_
                    refine thenR ?_
                    refine thenR ?_
                    refine fin_id (.inr rfl) (ends_of rfl (.cell ti_53 rfl rfl (by simp only [loaded, if_true, ler, tks, tkz, tkn, dps, dpz, cap, nap, apn, lnc, lnn, zad, Nat.reduceAdd, adz]; rfl) (.tmp rfl (.tmp rfl .nil)))) ?_ .nil rfl rfl rfl rfl
                    simp only [retA]
                    first | (exfalso; omega) | (refine A.le_of_eq ?_; simp only [oneM, hB]; by_cases he : iI = s.size <;> first | (exfalso; omega) | (simp_all; done) | (simp only [if_neg he, textM_fix]; simp_all; done) | (rw [if_neg he, if_pos (by assumption), hM]; first | (rw [if_pos (by omega)]; done) | (rw [if_neg (by omega)]; simp_all; done)) | (rw [if_neg he, if_neg (by simp_all), if_pos (by assumption), hM]; cases hq : numAt s (kK - iI) iI 0 <;> first | (simp_all; done) | (dsimp only; rw [if_neg (by rintro ⟨hx, _⟩; omega)]; simp_all; done) | (simp_all; omega)))
                  · have h37n := h37; try simp only [dtt, dff, bqi, bqf, bni, bnf, nt1, nf1, nt0, nf0, ne_eq, ilt, ile, Int.toNat_natCast] at h37n
                    refine AL.go (OpR.onb rfl rfl (nb rfl) rfl (h37) (r_move rfl (nb rfl) (by rintro _ ⟨⟩))) ?_
                    refine AL.go (OpR.onb rfl rfl (nb rfl) rfl (h37) (r_move rfl (nb rfl) (by rintro _ ⟨⟩))) ?_
                    refine AL.go (OpR.onb rfl rfl (nb rfl) rfl (h37) (r_lens un_9 rfl (nb rfl))) ?_
                    refine AL.go (OpR.onb rfl rfl (nb rfl) rfl (h37) (r_bin rfl rfl (nb rfl) rfl (run_int_lss _ _ _))) ?_
                    refine AL.go (OpR.onb rfl rfl (nb rfl) rfl (h37) (r_move rfl (nb rfl) (by rintro _ ⟨⟩))) ?_
                    refine AL.ifb (t := 119) rfl (fun h38 => ?_) (fun h38 => ?_)
                    · have h38n := h38; try simp only [dtt, dff, bqi, bqf, bni, bnf, nt1, nf1, nt0, nf0, ne_eq, ilt, ile, Int.toNat_natCast] at h38n
                      refine AL.go (OpR.onb rfl rfl (nb rfl) rfl (h38) (r_move rfl (nb rfl) (by rintro _ ⟨⟩))) ?_
                      refine AL.go (OpR.onb rfl rfl (nb rfl) rfl (h38) (r_move rfl (nb rfl) (by rintro _ ⟨⟩))) ?_
                      refine AL.go (OpR.onb rfl rfl (nb rfl) rfl (h38) (r_byteD un_9 rfl rfl (nb rfl) (by first | omega | (simp only [Int.toNat_natCast] at *; omega)) (by first | omega | (simp only [Int.toNat_natCast] at *; omega)))) ?_
                      refine AL.go (OpR.onb rfl rfl (nb rfl) rfl (h38) (r_callFun (rletter_s _) en_50 rfl rfl rfl rfl (.cons (A.le_refl _) .nil) rfl (nb rfl))) ?_
                      refine AL.go (OpR.onb rfl rfl (nb rfl) rfl (h37) (r_pickTb rfl (h38) rfl (nb rfl) (by rintro _ ⟨⟩))) ?_
                      refine AL.go (OpR.plain rfl (r_pickFb rfl (h37) rfl (nb rfl) (by rintro _ ⟨⟩))) ?_
                      refine AL.nil ?_
                      refine thenN ?_
                      refine AW.condb rfl (fun h39 => ?_) (fun h39 => ?_)
                      · have h39n := h39; try simp only [dtt, dff, bqi, bqf, bni, bnf, nt1, nf1, nt0, nf0, ne_eq, ilt, ile, Int.toNat_natCast] at h39n
                        refine AW.seq ?_
                        refine AW.region ?_
                        refine AL.go (OpR.plain rfl (r_build pl_53 rfl zc_53 rfl rfl (by simp only [fillC, putAt, gez, ges, if_true, and_self, Nat.reduceLeDiff, true_and, tks, tkz, tkn, dps, dpz, cap, nap, apn, lnc, lnn, zad, Nat.reduceAdd, adz]; rfl) (nb rfl))) ?_
                        refine AL.go (OpR.plain rfl (r_move rfl (nb rfl) (by rintro _ ⟨⟩))) ?_
                        refine AL.go (OpR.plain rfl (r_storeN ti_53 rfl rfl rfl rfl rfl (nb rfl) (by simp only [putAt, tks, tkz, tkn, dps, dpz, cap, nap, apn, lnc, lnn, zad, Nat.reduceAdd, adz]; rfl) (by rintro _ ⟨⟩))) ?_
                        refine AL.go (OpR.plain rfl (r_assign rfl (nb rfl) (by rintro _ ⟨⟩))) ?_
                        refine AL.go (OpR.plain rfl (r_assign rfl (nb rfl) (by rintro _ ⟨⟩; rfl))) ?_
                        refine AL.nil ?_
                        refine thenN ?_
                        refine AW.ret ?_
                        refine thenR ?_
                        refine thenR ?_
                        refine fin_id (.inr rfl) (ends_of rfl (.cell ti_53 rfl rfl (by simp only [loaded, if_true, ler, tks, tkz, tkn, dps, dpz, cap, nap, apn, lnc, lnn, zad, Nat.reduceAdd, adz]; rfl) (.tmp rfl (.tmp rfl .nil)))) ?_ .nil rfl rfl rfl rfl
                        simp only [retA]
                        first | (exfalso; omega) | (refine A.le_of_eq ?_; simp only [oneM, hB]; by_cases he : iI = s.size <;> first | (exfalso; omega) | (simp_all; done) | (simp only [if_neg he, textM_fix]; simp_all; done) | (rw [if_neg he, if_pos (by assumption), hM]; first | (rw [if_pos (by omega)]; done) | (rw [if_neg (by omega)]; simp_all; done)) | (rw [if_neg he, if_neg (by simp_all), if_pos (by assumption), hM]; cases hq : numAt s (kK - iI) iI 0 <;> first | (simp_all; done) | (dsimp only; rw [if_neg (by rintro ⟨hx, _⟩; omega)]; simp_all; done) | (simp_all; omega)))
                      · have h39n := h39; try simp only [dtt, dff, bqi, bqf, bni, bnf, nt1, nf1, nt0, nf0, ne_eq, ilt, ile, Int.toNat_natCast] at h39n
                        refine AW.skip ?_
                        refine thenN ?_
                        refine AW.seq ?_
                        refine AW.region ?_
                        refine AL.go (OpR.plain rfl (r_move rfl (nb rfl) (by rintro _ ⟨⟩))) ?_
                        refine AL.go (OpR.plain rfl (r_move rfl (nb rfl) (by rintro _ ⟨⟩))) ?_
                        refine AL.go (OpR.plain rfl (r_move rfl (nb rfl) (by rintro _ ⟨⟩))) ?_
                        refine AL.go (OpR.plain rfl (r_substr un_9 rfl rfl rfl (nb rfl) (by first | omega | (simp only [Int.toNat_natCast] at *; omega)) (by first | omega | (simp only [Int.toNat_natCast] at *; omega)) (by first | omega | (simp only [Int.toNat_natCast] at *; omega)))) ?_
                        refine AL.go (OpR.plain rfl (r_move rfl (nb rfl) (by rintro _ ⟨⟩))) ?_
                        refine AL.go (OpR.plain rfl (r_move rfl (nb rfl) (by rintro _ ⟨⟩))) ?_
                        refine AL.go (OpR.plain rfl (r_build pl_53 rfl zc_53 rfl rfl (by simp only [fillC, putAt, gez, ges, if_true, and_self, Nat.reduceLeDiff, true_and, tks, tkz, tkn, dps, dpz, cap, nap, apn, lnc, lnn, zad, Nat.reduceAdd, adz]; rfl) (nb rfl))) ?_
                        refine AL.go (OpR.plain rfl (r_move rfl (nb rfl) (by rintro _ ⟨⟩))) ?_
                        refine AL.go (OpR.plain rfl (r_storeN ti_53 rfl rfl rfl rfl rfl (nb rfl) (by simp only [putAt, tks, tkz, tkn, dps, dpz, cap, nap, apn, lnc, lnn, zad, Nat.reduceAdd, adz]; rfl) (by rintro _ ⟨⟩))) ?_
                        refine AL.go (OpR.plain rfl (r_assign rfl (nb rfl) (by rintro _ ⟨⟩))) ?_
                        refine AL.go (OpR.plain rfl (r_assign rfl (nb rfl) (by rintro _ ⟨⟩; rfl))) ?_
                        refine AL.nil ?_
                        refine thenN ?_
                        refine AW.ret ?_
                        refine thenR ?_
                        refine fin_id (.inr rfl) (ends_of rfl (.cell ti_53 rfl rfl (by simp only [loaded, if_true, ler, tks, tkz, tkn, dps, dpz, cap, nap, apn, lnc, lnn, zad, Nat.reduceAdd, adz]; rfl) (.tmp rfl (.tmp rfl .nil)))) ?_ .nil rfl rfl rfl rfl
                        simp only [retA]
                        first | (exfalso; omega) | (refine A.le_of_eq ?_; simp only [oneM, hB]; by_cases he : iI = s.size <;> first | (exfalso; omega) | (simp_all; done) | (simp only [if_neg he, textM_fix]; simp_all; done) | (rw [if_neg he, if_pos (by assumption), hM]; first | (rw [if_pos (by omega)]; done) | (rw [if_neg (by omega)]; simp_all; done)) | (rw [if_neg he, if_neg (by simp_all), if_pos (by assumption), hM]; cases hq : numAt s (kK - iI) iI 0 <;> first | (simp_all; done) | (dsimp only; rw [if_neg (by rintro ⟨hx, _⟩; omega)]; simp_all; done) | (simp_all; omega)))
                    · have h38n := h38; try simp only [dtt, dff, bqi, bqf, bni, bnf, nt1, nf1, nt0, nf0, ne_eq, ilt, ile, Int.toNat_natCast] at h38n
                      refine AL.go (.off rfl rfl (nb rfl) rfl (by rw [h38]; decide) rfl (nb rfl)) ?_
                      refine AL.go (.off rfl rfl (nb rfl) rfl (by rw [h38]; decide) rfl (nb rfl)) ?_
                      refine AL.go (.off rfl rfl (nb rfl) rfl (by rw [h38]; decide) rfl (nb rfl)) ?_
                      refine AL.go (.off rfl rfl (nb rfl) rfl (by rw [h38]; decide) rfl (nb rfl)) ?_
                      refine AL.go (OpR.onb rfl rfl (nb rfl) rfl (h37) (r_pickFb rfl (h38) rfl (nb rfl) (by rintro _ ⟨⟩; rfl))) ?_
                      refine AL.go (OpR.plain rfl (r_pickFb rfl (h37) rfl (nb rfl) (by rintro _ ⟨⟩))) ?_
                      refine AL.nil ?_
                      refine thenN ?_
                      refine AW.condF rfl (rfl) ?_
                      refine AW.skip ?_
                      refine thenN ?_
                      refine AW.seq ?_
                      refine AW.region ?_
                      refine AL.go (OpR.plain rfl (r_move rfl (nb rfl) (by rintro _ ⟨⟩))) ?_
                      refine AL.go (OpR.plain rfl (r_move rfl (nb rfl) (by rintro _ ⟨⟩))) ?_
                      refine AL.go (OpR.plain rfl (r_move rfl (nb rfl) (by rintro _ ⟨⟩))) ?_
                      refine AL.go (OpR.plain rfl (r_substr un_9 rfl rfl rfl (nb rfl) (by first | omega | (simp only [Int.toNat_natCast] at *; omega)) (by first | omega | (simp only [Int.toNat_natCast] at *; omega)) (by first | omega | (simp only [Int.toNat_natCast] at *; omega)))) ?_
                      refine AL.go (OpR.plain rfl (r_move rfl (nb rfl) (by rintro _ ⟨⟩))) ?_
                      refine AL.go (OpR.plain rfl (r_move rfl (nb rfl) (by rintro _ ⟨⟩))) ?_
                      refine AL.go (OpR.plain rfl (r_build pl_53 rfl zc_53 rfl rfl (by simp only [fillC, putAt, gez, ges, if_true, and_self, Nat.reduceLeDiff, true_and, tks, tkz, tkn, dps, dpz, cap, nap, apn, lnc, lnn, zad, Nat.reduceAdd, adz]; rfl) (nb rfl))) ?_
                      refine AL.go (OpR.plain rfl (r_move rfl (nb rfl) (by rintro _ ⟨⟩))) ?_
                      refine AL.go (OpR.plain rfl (r_storeN ti_53 rfl rfl rfl rfl rfl (nb rfl) (by simp only [putAt, tks, tkz, tkn, dps, dpz, cap, nap, apn, lnc, lnn, zad, Nat.reduceAdd, adz]; rfl) (by rintro _ ⟨⟩))) ?_
                      refine AL.go (OpR.plain rfl (r_assign rfl (nb rfl) (by rintro _ ⟨⟩))) ?_
                      refine AL.go (OpR.plain rfl (r_assign rfl (nb rfl) (by rintro _ ⟨⟩; rfl))) ?_
                      refine AL.nil ?_
                      refine thenN ?_
                      refine AW.ret ?_
                      refine thenR ?_
                      refine fin_id (.inr rfl) (ends_of rfl (.cell ti_53 rfl rfl (by simp only [loaded, if_true, ler, tks, tkz, tkn, dps, dpz, cap, nap, apn, lnc, lnn, zad, Nat.reduceAdd, adz]; rfl) (.tmp rfl (.tmp rfl .nil)))) ?_ .nil rfl rfl rfl rfl
                      simp only [retA]
                      first | (exfalso; omega) | (refine A.le_of_eq ?_; simp only [oneM, hB]; by_cases he : iI = s.size <;> first | (exfalso; omega) | (simp_all; done) | (simp only [if_neg he, textM_fix]; simp_all; done) | (rw [if_neg he, if_pos (by assumption), hM]; first | (rw [if_pos (by omega)]; done) | (rw [if_neg (by omega)]; simp_all; done)) | (rw [if_neg he, if_neg (by simp_all), if_pos (by assumption), hM]; cases hq : numAt s (kK - iI) iI 0 <;> first | (simp_all; done) | (dsimp only; rw [if_neg (by rintro ⟨hx, _⟩; omega)]; simp_all; done) | (simp_all; omega)))
              · have h35n := h35; try simp only [dtt, dff, bqi, bqf, bni, bnf, nt1, nf1, nt0, nf0, ne_eq, ilt, ile, Int.toNat_natCast] at h35n
                refine AL.go (.off rfl rfl (nb rfl) rfl (by rw [h35]; decide) rfl (nb rfl)) ?_
                refine AL.go (.off rfl rfl (nb rfl) rfl (by rw [h35]; decide) rfl (nb rfl)) ?_
                refine AL.go (.off rfl rfl (nb rfl) rfl (by rw [h35]; decide) rfl (nb rfl)) ?_
                refine AL.go (.off rfl rfl (nb rfl) rfl (by rw [h35]; decide) rfl (nb rfl)) ?_
                refine AL.go (OpR.plain rfl (r_pickFb rfl (h35) rfl (nb rfl) (by rintro _ ⟨⟩; rfl))) ?_
                refine AL.nil ?_
                refine thenN ?_
                refine AW.condF rfl (rfl) ?_
                refine AW.exit ?_
                refine thenX ?_
                refine thenX ?_
                refine inbE ?_
                refine thenN ?_
                refine AW.seq ?_
                refine AW.region ?_
                have hD : runOf isDigit s iI = kK := hJ.stop (by first | (left; omega) | (right; assumption))
                have hNum := num_sub (s := s) (i := iI) (k := kK) (by omega)
                have hM := numberM_fix hD a
                refine AL.go (OpR.plain rfl (r_move rfl (nb rfl) (by rintro _ ⟨⟩))) ?_
                refine AL.go (OpR.plain rfl (r_move rfl (nb rfl) (by rintro _ ⟨⟩))) ?_
                refine AL.go (OpR.plain rfl (r_move rfl (nb rfl) (by rintro _ ⟨⟩))) ?_
                refine AL.go (OpR.plain rfl (r_substr un_9 rfl rfl rfl (nb rfl) (by first | omega | (simp only [Int.toNat_natCast] at *; omega)) (by first | omega | (simp only [Int.toNat_natCast] at *; omega)) (by first | omega | (simp only [Int.toNat_natCast] at *; omega)))) ?_
                refine AL.go (OpR.plain rfl (r_callFun (rnumber_s (s.extract iI kK) (by rw [ByteArray.size_extract]; omega) (dig_sub (by omega) hD)) en_53 rfl rfl rfl rfl (.cons (A.le_refl _) .nil) rfl (nb rfl))) ?_
                refine AL.go (OpR.plain rfl (r_move rfl (nb rfl) (by rintro _ ⟨⟩))) ?_
                refine AL.go (OpR.plain rfl (r_extract rfl rfl (nb rfl))) ?_
                refine AL.go (OpR.plain rfl (r_extract rfl rfl (nb rfl))) ?_
                refine AL.go (OpR.plain rfl (r_assign rfl (nb rfl) (by rintro _ ⟨⟩))) ?_
                refine AL.go (OpR.plain rfl (r_assign rfl (nb rfl) (by rintro _ ⟨⟩))) ?_
                refine AL.nil ?_
                refine thenN ?_
                refine AW.seq ?_
                refine AW.seq ?_
                refine AW.region ?_
                refine AL.go (OpR.plain rfl (r_move rfl (nb rfl) (by rintro _ ⟨⟩))) ?_
                refine AL.go (OpR.plain rfl (r_not rfl (nb rfl))) ?_
                refine AL.go (OpR.plain rfl (r_move rfl (nb rfl) (by rintro _ ⟨⟩))) ?_
                refine AL.ifb (t := 114) rfl (fun h40 => ?_) (fun h40 => ?_)
                · have h40n := h40; try simp only [dtt, dff, bqi, bqf, bni, bnf, nt1, nf1, nt0, nf0, ne_eq, ilt, ile, Int.toNat_natCast] at h40n
                  refine AL.go (.off rfl rfl (nb rfl) rfl (by rw [h40]; decide) rfl (nb rfl)) ?_
                  refine AL.go (.off rfl rfl (nb rfl) rfl (by rw [h40]; decide) rfl (nb rfl)) ?_
                  refine AL.go (.off rfl rfl (nb rfl) rfl (by rw [h40]; decide) rfl (nb rfl)) ?_
                  refine AL.go (.off rfl rfl (nb rfl) rfl (by rw [h40]; decide) rfl (nb rfl)) ?_
                  refine AL.go (.off rfl rfl (nb rfl) rfl (by rw [h40]; decide) rfl (nb rfl)) ?_
                  refine AL.go (.offU rfl rfl (nb rfl) rfl rfl (nb rfl)) ?_
                  refine AL.go (.offU rfl rfl (nb rfl) rfl rfl (nb rfl)) ?_
                  refine AL.go (.offU rfl rfl (nb rfl) rfl rfl (nb rfl)) ?_
                  refine AL.go (.offU rfl rfl (nb rfl) rfl rfl (nb rfl)) ?_
                  refine AL.go (.off rfl rfl (nb rfl) rfl (by rw [h40]; decide) rfl (nb rfl)) ?_
                  refine AL.go (OpR.plain rfl (r_pickTb rfl (h40) rfl (nb rfl) (by rintro _ ⟨⟩; rfl))) ?_
                  refine AL.nil ?_
                  refine thenN ?_
                  refine AW.condT rfl (rfl) ?_
                  refine AW.seq ?_
                  refine AW.region ?_
                  refine AL.go (OpR.plain rfl (r_build pl_53 rfl zc_53 rfl rfl (by simp only [fillC, putAt, gez, ges, if_true, and_self, Nat.reduceLeDiff, true_and, tks, tkz, tkn, dps, dpz, cap, nap, apn, lnc, lnn, zad, Nat.reduceAdd, adz]; rfl) (nb rfl))) ?_
                  refine AL.go (OpR.plain rfl (r_move rfl (nb rfl) (by rintro _ ⟨⟩))) ?_
                  refine AL.go (OpR.plain rfl (r_storeN ti_53 rfl rfl rfl rfl rfl (nb rfl) (by simp only [putAt, tks, tkz, tkn, dps, dpz, cap, nap, apn, lnc, lnn, zad, Nat.reduceAdd, adz]; rfl) (by rintro _ ⟨⟩))) ?_
                  refine AL.go (OpR.plain rfl (r_assign rfl (nb rfl) (by rintro _ ⟨⟩))) ?_
                  refine AL.go (OpR.plain rfl (r_assign rfl (nb rfl) (by rintro _ ⟨⟩; rfl))) ?_
                  refine AL.nil ?_
                  refine thenN ?_
                  refine AW.ret ?_
                  refine thenR ?_
                  refine thenR ?_
                  refine fin_id (.inr rfl) (ends_of rfl (.cell ti_53 rfl rfl (by simp only [loaded, if_true, ler, tks, tkz, tkn, dps, dpz, cap, nap, apn, lnc, lnn, zad, Nat.reduceAdd, adz]; rfl) (.tmp rfl (.tmp rfl .nil)))) ?_ .nil rfl rfl rfl rfl
                  simp only [retA]
                  first | (exfalso; omega) | (refine A.le_of_eq ?_; simp only [oneM, hB]; by_cases he : iI = s.size <;> first | (exfalso; omega) | (simp_all; done) | (simp only [if_neg he, textM_fix]; simp_all; done) | (rw [if_neg he, if_pos (by assumption), hM]; first | (rw [if_pos (by omega)]; done) | (rw [if_neg (by omega)]; simp_all; done)) | (rw [if_neg he, if_neg (by simp_all), if_pos (by assumption), hM]; cases hq : numAt s (kK - iI) iI 0 <;> first | (simp_all; done) | (dsimp only; rw [if_neg (by rintro ⟨hx, _⟩; omega)]; simp_all; done) | (simp_all; omega)))
                · have h40n := h40; try simp only [dtt, dff, bqi, bqf, bni, bnf, nt1, nf1, nt0, nf0, ne_eq, ilt, ile, Int.toNat_natCast] at h40n
                  refine AL.go (OpR.onb rfl rfl (nb rfl) rfl (h40) (r_move rfl (nb rfl) (by rintro _ ⟨⟩))) ?_
                  refine AL.go (OpR.onb rfl rfl (nb rfl) rfl (h40) (r_move rfl (nb rfl) (by rintro _ ⟨⟩))) ?_
                  refine AL.go (OpR.onb rfl rfl (nb rfl) rfl (h40) (r_lens un_9 rfl (nb rfl))) ?_
                  refine AL.go (OpR.onb rfl rfl (nb rfl) rfl (h40) (r_bin rfl rfl (nb rfl) rfl (run_int_lss _ _ _))) ?_
                  refine AL.go (OpR.onb rfl rfl (nb rfl) rfl (h40) (r_move rfl (nb rfl) (by rintro _ ⟨⟩))) ?_
                  refine AL.ifb (t := 119) rfl (fun h41 => ?_) (fun h41 => ?_)
                  · have h41n := h41; try simp only [dtt, dff, bqi, bqf, bni, bnf, nt1, nf1, nt0, nf0, ne_eq, ilt, ile, Int.toNat_natCast] at h41n
                    refine AL.go (OpR.onb rfl rfl (nb rfl) rfl (h41) (r_move rfl (nb rfl) (by rintro _ ⟨⟩))) ?_
                    refine AL.go (OpR.onb rfl rfl (nb rfl) rfl (h41) (r_move rfl (nb rfl) (by rintro _ ⟨⟩))) ?_
                    refine AL.go (OpR.onb rfl rfl (nb rfl) rfl (h41) (r_byteD un_9 rfl rfl (nb rfl) (by first | omega | (simp only [Int.toNat_natCast] at *; omega)) (by first | omega | (simp only [Int.toNat_natCast] at *; omega)))) ?_
                    refine AL.go (OpR.onb rfl rfl (nb rfl) rfl (h41) (r_callFun (rletter_s _) en_50 rfl rfl rfl rfl (.cons (A.le_refl _) .nil) rfl (nb rfl))) ?_
                    refine AL.go (OpR.onb rfl rfl (nb rfl) rfl (h40) (r_pickTb rfl (h41) rfl (nb rfl) (by rintro _ ⟨⟩))) ?_
                    refine AL.go (OpR.plain rfl (r_pickFb rfl (h40) rfl (nb rfl) (by rintro _ ⟨⟩))) ?_
                    refine AL.nil ?_
                    refine thenN ?_
                    refine AW.condb rfl (fun h42 => ?_) (fun h42 => ?_)
                    · have h42n := h42; try simp only [dtt, dff, bqi, bqf, bni, bnf, nt1, nf1, nt0, nf0, ne_eq, ilt, ile, Int.toNat_natCast] at h42n
                      refine AW.seq ?_
                      refine AW.region ?_
                      refine AL.go (OpR.plain rfl (r_build pl_53 rfl zc_53 rfl rfl (by simp only [fillC, putAt, gez, ges, if_true, and_self, Nat.reduceLeDiff, true_and, tks, tkz, tkn, dps, dpz, cap, nap, apn, lnc, lnn, zad, Nat.reduceAdd, adz]; rfl) (nb rfl))) ?_
                      refine AL.go (OpR.plain rfl (r_move rfl (nb rfl) (by rintro _ ⟨⟩))) ?_
                      refine AL.go (OpR.plain rfl (r_storeN ti_53 rfl rfl rfl rfl rfl (nb rfl) (by simp only [putAt, tks, tkz, tkn, dps, dpz, cap, nap, apn, lnc, lnn, zad, Nat.reduceAdd, adz]; rfl) (by rintro _ ⟨⟩))) ?_
                      refine AL.go (OpR.plain rfl (r_assign rfl (nb rfl) (by rintro _ ⟨⟩))) ?_
                      refine AL.go (OpR.plain rfl (r_assign rfl (nb rfl) (by rintro _ ⟨⟩; rfl))) ?_
                      refine AL.nil ?_
                      refine thenN ?_
                      refine AW.ret ?_
                      refine thenR ?_
                      refine thenR ?_
                      refine fin_id (.inr rfl) (ends_of rfl (.cell ti_53 rfl rfl (by simp only [loaded, if_true, ler, tks, tkz, tkn, dps, dpz, cap, nap, apn, lnc, lnn, zad, Nat.reduceAdd, adz]; rfl) (.tmp rfl (.tmp rfl .nil)))) ?_ .nil rfl rfl rfl rfl
                      simp only [retA]
                      first | (exfalso; omega) | (refine A.le_of_eq ?_; simp only [oneM, hB]; by_cases he : iI = s.size <;> first | (exfalso; omega) | (simp_all; done) | (simp only [if_neg he, textM_fix]; simp_all; done) | (rw [if_neg he, if_pos (by assumption), hM]; first | (rw [if_pos (by omega)]; done) | (rw [if_neg (by omega)]; simp_all; done)) | (rw [if_neg he, if_neg (by simp_all), if_pos (by assumption), hM]; cases hq : numAt s (kK - iI) iI 0 <;> first | (simp_all; done) | (dsimp only; rw [if_neg (by rintro ⟨hx, _⟩; omega)]; simp_all; done) | (simp_all; omega)))
                    · have h42n := h42; try simp only [dtt, dff, bqi, bqf, bni, bnf, nt1, nf1, nt0, nf0, ne_eq, ilt, ile, Int.toNat_natCast] at h42n
                      refine AW.skip ?_
                      refine thenN ?_
                      refine AW.seq ?_
                      refine AW.region ?_
                      refine AL.go (OpR.plain rfl (r_move rfl (nb rfl) (by rintro _ ⟨⟩))) ?_
                      refine AL.go (OpR.plain rfl (r_move rfl (nb rfl) (by rintro _ ⟨⟩))) ?_
                      refine AL.go (OpR.plain rfl (r_move rfl (nb rfl) (by rintro _ ⟨⟩))) ?_
                      refine AL.go (OpR.plain rfl (r_substr un_9 rfl rfl rfl (nb rfl) (by first | omega | (simp only [Int.toNat_natCast] at *; omega)) (by first | omega | (simp only [Int.toNat_natCast] at *; omega)) (by first | omega | (simp only [Int.toNat_natCast] at *; omega)))) ?_
                      refine AL.go (OpR.plain rfl (r_move rfl (nb rfl) (by rintro _ ⟨⟩))) ?_
                      refine AL.go (OpR.plain rfl (r_move rfl (nb rfl) (by rintro _ ⟨⟩))) ?_
                      refine AL.go (OpR.plain rfl (r_build pl_53 rfl zc_53 rfl rfl (by simp only [fillC, putAt, gez, ges, if_true, and_self, Nat.reduceLeDiff, true_and, tks, tkz, tkn, dps, dpz, cap, nap, apn, lnc, lnn, zad, Nat.reduceAdd, adz]; rfl) (nb rfl))) ?_
                      refine AL.go (OpR.plain rfl (r_move rfl (nb rfl) (by rintro _ ⟨⟩))) ?_
                      refine AL.go (OpR.plain rfl (r_storeN ti_53 rfl rfl rfl rfl rfl (nb rfl) (by simp only [putAt, tks, tkz, tkn, dps, dpz, cap, nap, apn, lnc, lnn, zad, Nat.reduceAdd, adz]; rfl) (by rintro _ ⟨⟩))) ?_
                      refine AL.go (OpR.plain rfl (r_assign rfl (nb rfl) (by rintro _ ⟨⟩))) ?_
                      refine AL.go (OpR.plain rfl (r_assign rfl (nb rfl) (by rintro _ ⟨⟩; rfl))) ?_
                      refine AL.nil ?_
                      refine thenN ?_
                      refine AW.ret ?_
                      refine thenR ?_
                      refine fin_id (.inr rfl) (ends_of rfl (.cell ti_53 rfl rfl (by simp only [loaded, if_true, ler, tks, tkz, tkn, dps, dpz, cap, nap, apn, lnc, lnn, zad, Nat.reduceAdd, adz]; rfl) (.tmp rfl (.tmp rfl .nil)))) ?_ .nil rfl rfl rfl rfl
                      simp only [retA]
                      first | (exfalso; omega) | (refine A.le_of_eq ?_; simp only [oneM, hB]; by_cases he : iI = s.size <;> first | (exfalso; omega) | (simp_all; done) | (simp only [if_neg he, textM_fix]; simp_all; done) | (rw [if_neg he, if_pos (by assumption), hM]; first | (rw [if_pos (by omega)]; done) | (rw [if_neg (by omega)]; simp_all; done)) | (rw [if_neg he, if_neg (by simp_all), if_pos (by assumption), hM]; cases hq : numAt s (kK - iI) iI 0 <;> first | (simp_all; done) | (dsimp only; rw [if_neg (by rintro ⟨hx, _⟩; omega)]; simp_all; done) | (simp_all; omega)))
                  · have h41n := h41; try simp only [dtt, dff, bqi, bqf, bni, bnf, nt1, nf1, nt0, nf0, ne_eq, ilt, ile, Int.toNat_natCast] at h41n
                    refine AL.go (.off rfl rfl (nb rfl) rfl (by rw [h41]; decide) rfl (nb rfl)) ?_
                    refine AL.go (.off rfl rfl (nb rfl) rfl (by rw [h41]; decide) rfl (nb rfl)) ?_
                    refine AL.go (.off rfl rfl (nb rfl) rfl (by rw [h41]; decide) rfl (nb rfl)) ?_
                    refine AL.go (.off rfl rfl (nb rfl) rfl (by rw [h41]; decide) rfl (nb rfl)) ?_
                    refine AL.go (OpR.onb rfl rfl (nb rfl) rfl (h40) (r_pickFb rfl (h41) rfl (nb rfl) (by rintro _ ⟨⟩; rfl))) ?_
                    refine AL.go (OpR.plain rfl (r_pickFb rfl (h40) rfl (nb rfl) (by rintro _ ⟨⟩))) ?_
                    refine AL.nil ?_
                    refine thenN ?_
                    refine AW.condF rfl (rfl) ?_
                    refine AW.skip ?_
                    refine thenN ?_
                    refine AW.seq ?_
                    refine AW.region ?_
                    refine AL.go (OpR.plain rfl (r_move rfl (nb rfl) (by rintro _ ⟨⟩))) ?_
                    refine AL.go (OpR.plain rfl (r_move rfl (nb rfl) (by rintro _ ⟨⟩))) ?_
                    refine AL.go (OpR.plain rfl (r_move rfl (nb rfl) (by rintro _ ⟨⟩))) ?_
                    refine AL.go (OpR.plain rfl (r_substr un_9 rfl rfl rfl (nb rfl) (by first | omega | (simp only [Int.toNat_natCast] at *; omega)) (by first | omega | (simp only [Int.toNat_natCast] at *; omega)) (by first | omega | (simp only [Int.toNat_natCast] at *; omega)))) ?_
                    refine AL.go (OpR.plain rfl (r_move rfl (nb rfl) (by rintro _ ⟨⟩))) ?_
                    refine AL.go (OpR.plain rfl (r_move rfl (nb rfl) (by rintro _ ⟨⟩))) ?_
                    refine AL.go (OpR.plain rfl (r_build pl_53 rfl zc_53 rfl rfl (by simp only [fillC, putAt, gez, ges, if_true, and_self, Nat.reduceLeDiff, true_and, tks, tkz, tkn, dps, dpz, cap, nap, apn, lnc, lnn, zad, Nat.reduceAdd, adz]; rfl) (nb rfl))) ?_
                    refine AL.go (OpR.plain rfl (r_move rfl (nb rfl) (by rintro _ ⟨⟩))) ?_
                    refine AL.go (OpR.plain rfl (r_storeN ti_53 rfl rfl rfl rfl rfl (nb rfl) (by simp only [putAt, tks, tkz, tkn, dps, dpz, cap, nap, apn, lnc, lnn, zad, Nat.reduceAdd, adz]; rfl) (by rintro _ ⟨⟩))) ?_
                    refine AL.go (OpR.plain rfl (r_assign rfl (nb rfl) (by rintro _ ⟨⟩))) ?_
                    refine AL.go (OpR.plain rfl (r_assign rfl (nb rfl) (by rintro _ ⟨⟩; rfl))) ?_
                    refine AL.nil ?_
                    refine thenN ?_
                    refine AW.ret ?_
                    refine thenR ?_
                    refine fin_id (.inr rfl) (ends_of rfl (.cell ti_53 rfl rfl (by simp only [loaded, if_true, ler, tks, tkz, tkn, dps, dpz, cap, nap, apn, lnc, lnn, zad, Nat.reduceAdd, adz]; rfl) (.tmp rfl (.tmp rfl .nil)))) ?_ .nil rfl rfl rfl rfl
                    simp only [retA]
                    first | (exfalso; omega) | (refine A.le_of_eq ?_; simp only [oneM, hB]; by_cases he : iI = s.size <;> first | (exfalso; omega) | (simp_all; done) | (simp only [if_neg he, textM_fix]; simp_all; done) | (rw [if_neg he, if_pos (by assumption), hM]; first | (rw [if_pos (by omega)]; done) | (rw [if_neg (by omega)]; simp_all; done)) | (rw [if_neg he, if_neg (by simp_all), if_pos (by assumption), hM]; cases hq : numAt s (kK - iI) iI 0 <;> first | (simp_all; done) | (dsimp only; rw [if_neg (by rintro ⟨hx, _⟩; omega)]; simp_all; done) | (simp_all; omega)))
            · have h34n := h34; try simp only [dtt, dff, bqi, bqf, bni, bnf, nt1, nf1, nt0, nf0, ne_eq, ilt, ile, Int.toNat_natCast] at h34n
              refine AW.skip ?_
              refine thenN ?_
              refine AW.seq ?_
              refine AW.seq ?_
              refine AW.region ?_
              refine AL.go (OpR.plain rfl (r_move rfl (nb rfl) (by rintro _ ⟨⟩))) ?_
              refine AL.go (OpR.plain rfl (r_move rfl (nb rfl) (by rintro _ ⟨⟩))) ?_
              refine AL.go (OpR.plain rfl (r_byteD un_9 rfl rfl (nb rfl) (by first | omega | (simp only [Int.toNat_natCast] at *; omega)) (by first | omega | (simp only [Int.toNat_natCast] at *; omega)))) ?_
              refine AL.go (OpR.plain rfl (r_bin rfl rfl (nb rfl) rfl (run_int_eql _ _ _))) ?_
              refine AL.nil ?_
              refine thenN ?_
              refine AW.condb rfl (fun h43 => ?_) (fun h43 => ?_)
              · have h43n := h43; try simp only [dtt, dff, bqi, bqf, bni, bnf, nt1, nf1, nt0, nf0, ne_eq, ilt, ile, Int.toNat_natCast] at h43n
                refine AW.seq ?_
                refine AW.region ?_
                refine AL.go (OpR.plain rfl (r_move rfl (nb rfl) (by rintro _ ⟨⟩))) ?_
                refine AL.go (OpR.plain rfl (r_move rfl (nb rfl) (by rintro _ ⟨⟩))) ?_
                refine AL.go (OpR.plain rfl (r_move rfl (nb rfl) (by rintro _ ⟨⟩))) ?_
                refine AL.go (OpR.plain rfl (r_callFun (rtext_s s a iI hs (by omega)) en_54 rfl rfl rfl rfl (.cons (A.le_refl _) (.cons (A.le_refl _) (.cons (A.le_refl _) .nil))) rfl (nb rfl))) ?_
                refine AL.go (OpR.plain rfl (r_extract rfl rfl (nb rfl))) ?_
                refine AL.go (OpR.plain rfl (r_extract rfl rfl (nb rfl))) ?_
                refine AL.go (OpR.plain rfl (r_extract rfl rfl (nb rfl))) ?_
                refine AL.go (OpR.plain rfl (r_storeN ti_53 rfl rfl rfl rfl rfl (nb rfl) (by simp only [putAt, tks, tkz, tkn, dps, dpz, cap, nap, apn, lnc, lnn, zad, Nat.reduceAdd, adz]; rfl) (by rintro _ ⟨⟩))) ?_
                refine AL.go (OpR.plain rfl (r_assign rfl (nb rfl) (by rintro _ ⟨⟩))) ?_
                refine AL.go (OpR.plain rfl (r_assign rfl (nb rfl) (by rintro _ ⟨⟩))) ?_
                refine AL.nil ?_
                refine thenN ?_
                refine AW.ret ?_
                refine thenR ?_
                refine fin_id (.inr rfl) (ends_of rfl (.cell ti_53 rfl rfl (by simp only [loaded, if_true, ler, tks, tkz, tkn, dps, dpz, cap, nap, apn, lnc, lnn, zad, Nat.reduceAdd, adz]; rfl) (.tmp rfl (.tmp rfl .nil)))) ?_ .nil rfl rfl rfl rfl
                simp only [retA]
                first | (exfalso; omega) | (refine A.le_of_eq ?_; simp only [oneM, hB]; by_cases he : iI = s.size <;> first | (exfalso; omega) | (simp_all; done) | (simp only [if_neg he, textM_fix]; simp_all; done) | (rw [if_neg he, if_pos (by assumption), hM]; first | (rw [if_pos (by omega)]; done) | (rw [if_neg (by omega)]; simp_all; done)) | (rw [if_neg he, if_neg (by simp_all), if_pos (by assumption), hM]; cases hq : numAt s (kK - iI) iI 0 <;> first | (simp_all; done) | (dsimp only; rw [if_neg (by rintro ⟨hx, _⟩; omega)]; simp_all; done) | (simp_all; omega)))
              · have h43n := h43; try simp only [dtt, dff, bqi, bqf, bni, bnf, nt1, nf1, nt0, nf0, ne_eq, ilt, ile, Int.toNat_natCast] at h43n
                refine AW.skip ?_
                refine thenN ?_
                refine AW.seq ?_
                refine AW.region ?_
                refine AL.go (OpR.plain rfl (r_move rfl (nb rfl) (by rintro _ ⟨⟩))) ?_
                refine AL.go (OpR.plain rfl (r_move rfl (nb rfl) (by rintro _ ⟨⟩))) ?_
                refine AL.go (OpR.plain rfl (r_callFun (rsign_s s iI hs (by omega)) en_55 rfl rfl rfl rfl (.cons (A.le_refl _) (.cons (A.le_refl _) .nil)) rfl (nb rfl))) ?_
                refine AL.go (OpR.plain rfl (r_assign rfl (nb rfl) (by rintro _ ⟨⟩))) ?_
                refine AL.nil ?_
                refine thenN ?_
                refine AW.seq ?_
                refine AW.seq ?_
                refine AW.region ?_
                refine AL.go (OpR.plain rfl (r_move rfl (nb rfl) (by rintro _ ⟨⟩))) ?_
                refine AL.go (OpR.plain rfl (r_bin rfl rfl (nb rfl) rfl (run_str_eql _ _))) ?_
                refine AL.nil ?_
                refine thenN ?_
                refine AW.condb rfl (fun h44 => ?_) (fun h44 => ?_)
                · have h44n := h44; try simp only [dtt, dff, bqi, bqf, bni, bnf, nt1, nf1, nt0, nf0, ne_eq, ilt, ile, Int.toNat_natCast] at h44n
                  refine AW.seq ?_
                  refine AW.region ?_
                  refine AL.go (OpR.plain rfl (r_build pl_53 rfl zc_53 rfl rfl (by simp only [fillC, putAt, gez, ges, if_true, and_self, Nat.reduceLeDiff, true_and, tks, tkz, tkn, dps, dpz, cap, nap, apn, lnc, lnn, zad, Nat.reduceAdd, adz]; rfl) (nb rfl))) ?_
                  refine AL.go (OpR.plain rfl (r_move rfl (nb rfl) (by rintro _ ⟨⟩))) ?_
                  refine AL.go (OpR.plain rfl (r_storeN ti_53 rfl rfl rfl rfl rfl (nb rfl) (by simp only [putAt, tks, tkz, tkn, dps, dpz, cap, nap, apn, lnc, lnn, zad, Nat.reduceAdd, adz]; rfl) (by rintro _ ⟨⟩))) ?_
                  refine AL.go (OpR.plain rfl (r_assign rfl (nb rfl) (by rintro _ ⟨⟩))) ?_
                  refine AL.go (OpR.plain rfl (r_assign rfl (nb rfl) (by rintro _ ⟨⟩; rfl))) ?_
                  refine AL.nil ?_
                  refine thenN ?_
                  refine AW.ret ?_
                  refine thenR ?_
                  refine fin_id (.inr rfl) (ends_of rfl (.cell ti_53 rfl rfl (by simp only [loaded, if_true, ler, tks, tkz, tkn, dps, dpz, cap, nap, apn, lnc, lnn, zad, Nat.reduceAdd, adz]; rfl) (.tmp rfl (.tmp rfl .nil)))) ?_ .nil rfl rfl rfl rfl
                  simp only [retA]
                  first | (exfalso; omega) | (refine A.le_of_eq ?_; simp only [oneM, hB]; by_cases he : iI = s.size <;> first | (exfalso; omega) | (simp_all; done) | (simp only [if_neg he, textM_fix]; simp_all; done) | (rw [if_neg he, if_pos (by assumption), hM]; first | (rw [if_pos (by omega)]; done) | (rw [if_neg (by omega)]; simp_all; done)) | (rw [if_neg he, if_neg (by simp_all), if_pos (by assumption), hM]; cases hq : numAt s (kK - iI) iI 0 <;> first | (simp_all; done) | (dsimp only; rw [if_neg (by rintro ⟨hx, _⟩; omega)]; simp_all; done) | (simp_all; omega)))
                · have h44n := h44; try simp only [dtt, dff, bqi, bqf, bni, bnf, nt1, nf1, nt0, nf0, ne_eq, ilt, ile, Int.toNat_natCast] at h44n
                  refine AW.skip ?_
                  refine thenN ?_
                  refine AW.seq ?_
                  refine AW.region ?_
                  refine AL.go (OpR.plain rfl (r_move rfl (nb rfl) (by rintro _ ⟨⟩))) ?_
                  refine AL.go (OpR.plain rfl (r_move rfl (nb rfl) (by rintro _ ⟨⟩))) ?_
                  refine AL.go (OpR.plain rfl (r_build pl_53 rfl zc_53 rfl rfl (by simp only [fillC, putAt, gez, ges, if_true, and_self, Nat.reduceLeDiff, true_and, tks, tkz, tkn, dps, dpz, cap, nap, apn, lnc, lnn, zad, Nat.reduceAdd, adz]; rfl) (nb rfl))) ?_
                  refine AL.go (OpR.plain rfl (r_move rfl (nb rfl) (by rintro _ ⟨⟩))) ?_
                  refine AL.go (OpR.plain rfl (r_move rfl (nb rfl) (by rintro _ ⟨⟩))) ?_
                  refine AL.go (OpR.plain rfl (r_lens un_9 rfl (nb rfl))) ?_
                  refine AL.go (OpR.plain rfl (r_add rfl rfl (nb rfl) (by first | omega | (simp only [Int.toNat_natCast] at *; omega)) (by first | omega | (simp only [Int.toNat_natCast] at *; omega)))) ?_
                  refine AL.go (OpR.plain rfl (r_storeN ti_53 rfl rfl rfl rfl rfl (nb rfl) (by simp only [putAt, tks, tkz, tkn, dps, dpz, cap, nap, apn, lnc, lnn, zad, Nat.reduceAdd, adz]; rfl) (by rintro _ ⟨⟩))) ?_
                  refine AL.go (OpR.plain rfl (r_assign rfl (nb rfl) (by rintro _ ⟨⟩))) ?_
                  refine AL.go (OpR.plain rfl (r_assign rfl (nb rfl) (by rintro _ ⟨⟩; rfl))) ?_
                  refine AL.nil ?_
                  refine thenN ?_
                  refine AW.ret ?_
                  refine fin_id (.inr rfl) (ends_of rfl (.cell ti_53 rfl rfl (by simp only [loaded, if_true, ler, tks, tkz, tkn, dps, dpz, cap, nap, apn, lnc, lnn, zad, Nat.reduceAdd, adz]; rfl) (.tmp rfl (.tmp rfl .nil)))) ?_ .nil rfl rfl rfl rfl
                  simp only [retA]
                  first | (exfalso; omega) | (refine A.le_of_eq ?_; simp only [oneM, hB]; by_cases he : iI = s.size <;> first | (exfalso; omega) | (simp_all; done) | (simp only [if_neg he, textM_fix]; simp_all; done) | (rw [if_neg he, if_pos (by assumption), hM]; first | (rw [if_pos (by omega)]; done) | (rw [if_neg (by omega)]; simp_all; done)) | (rw [if_neg he, if_neg (by simp_all), if_pos (by assumption), hM]; cases hq : numAt s (kK - iI) iI 0 <;> first | (simp_all; done) | (dsimp only; rw [if_neg (by rintro ⟨hx, _⟩; omega)]; simp_all; done) | (simp_all; omega)))

end Go.Par
