import Derived.Test.YtihcfphmikebgaaDoorPrt9
namespace Go.Par
open Go Go.Am Go.Proofs Go.RowKit
set_option linter.unusedVariables false
set_option linter.unusedSimpArgs false

theorem nameM_le {s : ByteArray} {i : Nat} (h : i ≤ s.size) : (nameM s i).2.1 ≤ s.size := by
  unfold nameM
  split
  · exact h
  · exact runOf_le h
theorem numberM_le {s : ByteArray} {i : Nat} (h : i ≤ s.size) : (numberM s i).2.1 ≤ s.size := by
  unfold numberM
  split
  · exact h
  · split
    · exact h
    · exact runOf_le h
theorem txt_le {s : ByteArray} : ∀ (n i : Nat) (acc : ByteArray) (q : ByteArray × Nat), txt s n i acc = some q → q.2 ≤ s.size
  | 0, _, _, _, h => by cases h
  | n + 1, i, acc, q, h => by
    rw [txt] at h
    split at h
    · split at h
      · exact txt_le n _ _ q h
      · split at h
        · exact txt_le n _ _ q h
        · cases h; simp only; omega
    · cases h
theorem textM_le {s : ByteArray} {a i : Nat} (h : a ≤ s.size) : (textM s a i).2.1 ≤ s.size := by
  unfold textM
  split
  · exact h
  · rename_i acc k hq
    split
    · exact h
    · exact txt_le _ _ _ _ hq
theorem errFix_le {s : ByteArray} {a : Nat} {r : Tok × Nat × Int} (h : a ≤ s.size) (hr : r.2.1 ≤ s.size) : (errFix a r).2.1 ≤ s.size := by
  unfold errFix
  split
  · exact h
  · exact hr
theorem oneM_le {s : ByteArray} {a : Nat} (h : a ≤ s.size) : (oneM s a).2.1 ≤ s.size := by
  have hr := runOf_le (p := isBlank) h
  unfold oneM
  split
  · exact hr
  · split
    · exact errFix_le h (nameM_le hr)
    · split
      · exact errFix_le h (numberM_le hr)
      · split
        · exact errFix_le h (textM_le hr)
        · split
          · exact h
          · rename_i hs
            show runOf isBlank s a + (signM s (runOf isBlank s a)).size ≤ s.size
            generalize runOf isBlank s a = i at hr hs
            unfold signM at hs ⊢
            cases hf : signL.find? (matchAt s i) with
            | none => rw [hf] at hs; exact absurd rfl hs
            | some w =>
              have := List.find?_some hf
              simp only [matchAt, dtt] at this
              exact this.1
def allL (s : ByteArray) : Nat → Nat → List Tok → List Tok × Int
  | 0, _, _ => ([], 4)
  | n + 1, a, acc => if (oneM s a).2.2 ≠ 0 then ([], (oneM s a).2.2) else if (oneM s a).1.kind = 0 then (acc ++ [(oneM s a).1], 0) else allL s n (oneM s a).2.1 (acc ++ [(oneM s a).1])
def allM (s : ByteArray) : List Tok × Int := allL s 1000 0 []
structure AllI (s : ByteArray) (a : Nat) (acc : List Tok) : Prop where
  v : allM s = allL s (1000 - acc.length) a acc
  a : a ≤ s.size
  l : acc.length ≤ 1000
theorem AllI.over {s : ByteArray} {a : Nat} {acc : List Tok} (h : AllI s a acc) (hl : 1000 ≤ (acc.length : Int)) : allM s = ([], 4) := by
  rw [h.v, show 1000 - acc.length = 0 by omega]; rfl
theorem AllI.err {s : ByteArray} {a : Nat} {acc : List Tok} (h : AllI s a acc) (hl : (acc.length : Int) < 1000) (he : ¬ (oneM s a).2.2 = 0) : allM s = ([], (oneM s a).2.2) := by
  obtain ⟨n, hn⟩ : ∃ n, 1000 - acc.length = n + 1 := ⟨999 - acc.length, by omega⟩
  rw [h.v, hn, allL, if_pos he]
theorem AllI.fin {s : ByteArray} {a : Nat} {acc : List Tok} (h : AllI s a acc) (hl : (acc.length : Int) < 1000) (he : (oneM s a).2.2 = 0) (hk : (oneM s a).1.kind = 0) : allM s = (acc ++ [(oneM s a).1], 0) := by
  obtain ⟨n, hn⟩ : ∃ n, 1000 - acc.length = n + 1 := ⟨999 - acc.length, by omega⟩
  rw [h.v, hn, allL, if_neg (by simp [he]), if_pos hk]
theorem AllI.next {s : ByteArray} {a : Nat} {acc : List Tok} (h : AllI s a acc) (hl : (acc.length : Int) < 1000) (he : (oneM s a).2.2 = 0) (hk : ¬ (oneM s a).1.kind = 0) : AllI s (oneM s a).2.1 (acc ++ [(oneM s a).1]) := by
  obtain ⟨n, hn⟩ : ∃ n, 1000 - acc.length = n + 1 := ⟨999 - acc.length, by omega⟩
  refine ⟨?_, oneM_le h.a, by simp; omega⟩
  rw [h.v, hn, allL, if_neg (by simp [he]), if_neg hk]
  congr 1
  simp; omega

theorem en_61 : enters Tryd.prog 61 = true := by kernel_rfl

set_option maxHeartbeats 1000000 in
theorem all_s (s : ByteArray) (hs : s.size ≤ 10000000000000) : Am.Spec Tryd.prog 45 [A.val (.string s)] [] (A.tup [A.c (.d (tokRows (allM s).1)), A.i64 (allM s).2]) [] := by
  refine spec_ofN (n := 31) Tryd.func45 rfl rfl (nb rfl) ?_
  show AW _ _ (⟨[(0, A.val (.string s))], [], []⟩ : St) _
  refine AW.seq ?_
  refine AW.region ?_
  refine AL.go (OpR.plain rfl (r_assign rfl (nb rfl) (by rintro _ ⟨⟩; rfl))) ?_
  refine AL.go (OpR.plain rfl (r_assign rfl (nb rfl) (by rintro _ ⟨⟩; rfl))) ?_
  refine AL.nil ?_
  refine thenN ?_
  refine AW.seq ?_
  refine AW.region ?_
  refine AL.go (OpR.plain rfl (r_assign rfl (nb rfl) (by rintro _ ⟨⟩; rfl))) ?_
  refine AL.nil ?_
  refine thenN ?_
  refine AW.seq ?_
  refine AW.region ?_
  refine AL.go (OpR.plain rfl (r_assign rfl (nb rfl) (by rintro _ ⟨⟩; rfl))) ?_
  refine AL.nil ?_
  refine thenN ?_
  refine AW.seq ?_
  refine AW.block ?_
  refine AW.nilOwn 4 50 4 71 rfl rfl ?_
  refine AW.loop (ι := { x : Nat × List Tok // AllI s x.1 x.2 }) (fun x => ⟨[(0, A.val (.string s)), (4, A.c (.own 50 (x.1.2.map Tok.row))), (5, A.i64 (x.1.1 : Int))], [(50, .perm 4 71)], []⟩) (fun x => 1000 - x.1.2.length) ⟨(0, []), ⟨rfl, Nat.zero_le _, by simp⟩⟩ (weakens_id (.cons rfl (A.le_of_eq (by first | rfl | (simp [A.ren, C.ren, renOf, lk]; done) | (simp [A.ren, C.ren, renOf, lk]; omega) | omega)) (.cons rfl (A.le_of_eq (by first | rfl | (simp [A.ren, C.ren, renOf, lk]; done) | (simp [A.ren, C.ren, renOf, lk]; omega) | omega)) (.cons rfl (A.le_of_eq (by first | rfl | (simp [A.ren, C.ren, renOf, lk]; done) | (simp [A.ren, C.ren, renOf, lk]; omega) | omega)) .nil))) (.cons rfl (Ob.le_refl _) .nil) rfl rfl rfl rfl) ?_
  rintro ⟨⟨aA, lL⟩, hI⟩
  simp only at hI
  have hIa := hI.a; have hIl := hI.l
  show AW _ _ (⟨[(0, A.val (.string s)), (4, A.c (.own 50 (lL.map Tok.row))), (5, A.i64 (aA : Int))], [(50, .perm 4 71)], []⟩ : St) _
  refine AW.seq ?_
  refine AW.seq ?_
  refine AW.region ?_
  refine AL.go (OpR.plain rfl (r_move rfl (nb rfl) (by rintro _ ⟨⟩))) ?_
  refine AL.go (OpR.plain rfl (r_len un_50 rfl (by first | exact .sl | exact .own | exact .row | exact .nil) (by intro _ h; cases h) (nb rfl) (by rintro _ ⟨⟩))) ?_
  refine AL.go (OpR.plain rfl (r_bin rfl rfl (nb rfl) rfl (run_int_lss _ _ _))) ?_
  refine AL.nil ?_
  refine thenN ?_
  refine AW.condb rfl (fun h1 => ?_) (fun h1 => ?_)
  · have h1n := h1; try simp only [dtt, dff, bqi, bqf, bni, bnf, nt1, nf1, nt0, nf0, ne_eq, ilt, ile, Int.toNat_natCast, List.length_map] at h1n
    refine AW.skip ?_
    refine thenN ?_
    refine AW.block ?_
    refine AW.seq ?_
    refine AW.region ?_
    refine AL.go (OpR.plain rfl (r_move rfl (nb rfl) (by rintro _ ⟨⟩))) ?_
    refine AL.go (OpR.plain rfl (r_move rfl (nb rfl) (by rintro _ ⟨⟩))) ?_
    refine AL.go (OpR.plain rfl (r_callFun (one_s s aA hs hI.a) en_61 rfl rfl rfl rfl (.cons (A.le_refl _) (.cons (A.le_refl _) .nil)) rfl (nb rfl))) ?_
    refine AL.go (OpR.plain rfl (r_move rfl (nb rfl) (by rintro _ ⟨⟩))) ?_
    refine AL.go (OpR.plain rfl (r_extract rfl rfl (nb rfl))) ?_
    refine AL.go (OpR.plain rfl (r_extract rfl rfl (nb rfl))) ?_
    refine AL.go (OpR.plain rfl (r_extract rfl rfl (nb rfl))) ?_
    refine AL.go (OpR.plain rfl (r_alloc 101 ti_71 zc_71 rfl rfl (nb rfl))) ?_
    refine AL.go (OpR.plain rfl (r_storeN ti_71 rfl rfl rfl rfl rfl (nb rfl) (by simp only [putAt, tks, tkz, tkn, dps, dpz, cap, nap, apn, lnc, lnn, zad, Nat.reduceAdd, adz]; rfl) (by rintro _ ⟨⟩))) ?_
    refine AL.go (OpR.plain rfl (r_assign rfl (nb rfl) (by rintro _ ⟨⟩))) ?_
    refine AL.go (OpR.plain rfl (r_assign rfl (nb rfl) (by rintro _ ⟨⟩))) ?_
    refine AL.nil ?_
    refine thenN ?_
    refine AW.seq ?_
    refine AW.seq ?_
    refine AW.region ?_
    refine AL.go (OpR.plain rfl (r_move rfl (nb rfl) (by rintro _ ⟨⟩))) ?_
    refine AL.go (OpR.plain rfl (r_bin rfl rfl (nb rfl) rfl (run_int_neq _ _ _))) ?_
    refine AL.nil ?_
    refine thenN ?_
    refine AW.condb rfl (fun h2 => ?_) (fun h2 => ?_)
    · have h2n := h2; try simp only [dtt, dff, bqi, bqf, bni, bnf, nt1, nf1, nt0, nf0, ne_eq, ilt, ile, Int.toNat_natCast, List.length_map] at h2n
      refine AW.seq ?_
      refine AW.region ?_
      refine AL.go (OpR.plain rfl (r_move rfl (nb rfl) (by rintro _ ⟨⟩))) ?_
      refine AL.go (OpR.plain rfl (r_assign rfl (nb rfl) (by rintro _ ⟨⟩; rfl))) ?_
      refine AL.go (OpR.plain rfl (r_assign rfl (nb rfl) (by rintro _ ⟨⟩))) ?_
      refine AL.nil ?_
      refine thenN ?_
      refine AW.ret ?_
      refine thenR ?_
      refine inbR ?_
      refine thenR ?_
      refine inbR ?_
      refine thenR ?_
      refine fin_id (.inr rfl) (ends_of rfl (.tmp rfl (.tmp rfl .nil))) ?_ .nil rfl rfl rfl rfl
      simp only [retA]
      first | (rw [hI.over (by omega)]; exact A.le_tup (.cons A.le_nil (.cons (A.le_refl _) .nil))) | (rw [hI.err (by omega) (by assumption)]; exact A.le_tup (.cons A.le_nil (.cons (A.le_refl _) .nil))) | (rw [hI.fin (by omega) (by assumption) (by assumption)]; refine A.le_tup (.cons (A.le_trans A.le_own (A.le_of_eq (by simp [tokRows, Tok.row]))) (.cons (A.le_refl _) .nil)))
    · have h2n := h2; try simp only [dtt, dff, bqi, bqf, bni, bnf, nt1, nf1, nt0, nf0, ne_eq, ilt, ile, Int.toNat_natCast, List.length_map] at h2n
      refine AW.skip ?_
      refine thenN ?_
      refine AW.seq ?_
      refine AW.region ?_
      refine AL.go (OpR.plain rfl (r_move rfl (nb rfl) (by rintro _ ⟨⟩))) ?_
      first | refine AL.go (OpR.plain rfl (r_load ti_71 rfl rfl (by simp only [loaded, mpc, mpn, if_true, ler, tks, tkz, tkn, dps, dpz, cap, nap, apn, lnc, lnn, zad, Nat.reduceAdd, adz]; rfl) (nb rfl))) ?_ | refine AL.go (OpR.plain rfl (r_loadp ti_71 rfl (by simp only [loaded, mpc, mpn, if_true, ler, tks, tkz, tkn, dps, dpz, cap, nap, apn, lnc, lnn, zad, Nat.reduceAdd, adz]; rfl) (nb rfl))) ?_
      refine AL.go (OpR.plain rfl (r_buildSlice un_50 ti_71 rfl rfl rfl rfl rfl (by decide) (by decide) rfl (nb rfl))) ?_
      first | refine AL.go (OpR.plain rfl (r_append 103 un_50 ti_71 rfl rfl rfl rfl (by first | exact .sl | exact .own | exact .nil) rfl (by first | exact tok_len | (intro r hr; simp at hr; subst hr; rfl)) (by first | exact tok_len | (intro r hr; simp at hr; subst hr; rfl)) rfl (by simp [maxLen]; omega) (by simp [maxLen]; omega) (nb rfl))) ?_ | refine AL.go (OpR.plain rfl (r_appendNil 102 103 un_50 ti_71 rfl rfl rfl (by first | exact .sl | exact .own | exact .nil) rfl (by first | exact tok_len | (intro r hr; simp at hr; subst hr; rfl)) rfl rfl (by decide) (by simp [maxLen]; omega) (by simp [maxLen]; omega) (nb rfl))) ?_
      refine AL.go (OpR.plain rfl (r_assign rfl (nb rfl) (by rintro _ ⟨⟩))) ?_
      refine AL.nil ?_
      refine thenN ?_
      refine AW.seq ?_
      refine AW.seq ?_
      refine AW.region ?_
      first | refine AL.go (OpR.plain rfl (r_fieldAddr fo_71_0 (by decide) rfl (nb rfl))) ?_ | refine AL.go (OpR.plain rfl (r_fieldAddrp fo_71_0 (by decide) rfl (nb rfl))) ?_
      first | refine AL.go (OpR.plain rfl (r_load ti_3 rfl rfl rfl (nb rfl))) ?_ | refine AL.go (OpR.plain rfl (r_loadp ti_3 rfl rfl (nb rfl))) ?_
      refine AL.go (OpR.plain rfl (r_bin rfl rfl (nb rfl) rfl (run_int_eql _ _ _))) ?_
      refine AL.nil ?_
      refine thenN ?_
      refine AW.condb rfl (fun h3 => ?_) (fun h3 => ?_)
      · have h3n := h3; try simp only [dtt, dff, bqi, bqf, bni, bnf, nt1, nf1, nt0, nf0, ne_eq, ilt, ile, Int.toNat_natCast, List.length_map] at h3n
        refine AW.seq ?_
        refine AW.region ?_
        refine AL.go (OpR.plain rfl (r_move rfl (nb rfl) (by rintro _ ⟨⟩))) ?_
        refine AL.go (OpR.plain rfl (r_assign rfl (nb rfl) (by rintro _ ⟨⟩))) ?_
        refine AL.go (OpR.plain rfl (r_assign rfl (nb rfl) (by rintro _ ⟨⟩; rfl))) ?_
        refine AL.nil ?_
        refine thenN ?_
        refine AW.ret ?_
        refine thenR ?_
        refine inbR ?_
        refine thenR ?_
        refine inbR ?_
        refine thenR ?_
        refine fin_id (.inr rfl) (ends_of rfl (.tmp rfl (.tmp rfl .nil))) ?_ .nil rfl rfl rfl rfl
        simp only [retA]
        first | (rw [hI.over (by omega)]; exact A.le_tup (.cons A.le_nil (.cons (A.le_refl _) .nil))) | (rw [hI.err (by omega) (by assumption)]; exact A.le_tup (.cons A.le_nil (.cons (A.le_refl _) .nil))) | (rw [hI.fin (by omega) (by assumption) (by assumption)]; refine A.le_tup (.cons (A.le_trans A.le_own (A.le_of_eq (by simp [tokRows, Tok.row]))) (.cons (A.le_refl _) .nil)))
      · have h3n := h3; try simp only [dtt, dff, bqi, bqf, bni, bnf, nt1, nf1, nt0, nf0, ne_eq, ilt, ile, Int.toNat_natCast, List.length_map] at h3n
        refine AW.skip ?_
        refine thenN ?_
        refine AW.region ?_
        refine AL.go (OpR.plain rfl (r_move rfl (nb rfl) (by rintro _ ⟨⟩))) ?_
        refine AL.go (OpR.plain rfl (r_assign rfl (nb rfl) (by rintro _ ⟨⟩))) ?_
        refine AL.nil ?_
        refine inbN ?_
        refine thenN ?_
        refine ⟨⟨((oneM s aA).2.1, lL ++ [(oneM s aA).1]), hI.next (by omega) (by assumption) (by assumption)⟩, by simp only [List.length_append, lnc, lnn]; omega, weakens_ren [(50, 103)] (.cons rfl (A.le_of_eq (by first | rfl | (simp [A.ren, C.ren, renOf, lk]; done) | (simp [A.ren, C.ren, renOf, lk]; omega) | omega)) (.cons rfl (A.le_of_eq (by simp [Tok.row, A.ren, C.ren, renOf, lk])) (.cons rfl (A.le_of_eq (by first | rfl | (simp [A.ren, C.ren, renOf, lk]; done) | (simp [A.ren, C.ren, renOf, lk]; omega) | omega)) .nil))) (.cons rfl (Ob.le_refl _) .nil) rfl rfl rfl rfl rfl rfl⟩
  · have h1n := h1; try simp only [dtt, dff, bqi, bqf, bni, bnf, nt1, nf1, nt0, nf0, ne_eq, ilt, ile, Int.toNat_natCast, List.length_map] at h1n
    refine AW.exit ?_
    refine thenX ?_
    refine thenX ?_
    refine inbE ?_
    refine thenN ?_
    refine AW.seq ?_
    refine AW.region ?_
    refine AL.go (OpR.plain rfl (r_assign rfl (nb rfl) (by rintro _ ⟨⟩; rfl))) ?_
    refine AL.go (OpR.plain rfl (r_assign rfl (nb rfl) (by rintro _ ⟨⟩; rfl))) ?_
    refine AL.nil ?_
    refine thenN ?_
    refine AW.ret ?_
    refine fin_id (.inr rfl) (ends_of rfl (.tmp rfl (.tmp rfl .nil))) ?_ .nil rfl rfl rfl rfl
    simp only [retA]
    first | (rw [hI.over (by omega)]; exact A.le_tup (.cons A.le_nil (.cons (A.le_refl _) .nil))) | (rw [hI.err (by omega) (by assumption)]; exact A.le_tup (.cons A.le_nil (.cons (A.le_refl _) .nil))) | (rw [hI.fin (by omega) (by assumption) (by assumption)]; refine A.le_tup (.cons (A.le_trans A.le_own (A.le_of_eq (by simp [tokRows, Tok.row]))) (.cons (A.le_refl _) .nil)))


end Go.Par
