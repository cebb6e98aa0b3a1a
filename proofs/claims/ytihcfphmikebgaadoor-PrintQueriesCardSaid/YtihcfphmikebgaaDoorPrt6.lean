import Derived.Test.YtihcfphmikebgaaDoorPrt5
namespace Go.Par
open Go Go.Am Go.Proofs Go.RowKit
set_option linter.unusedVariables false
set_option linter.unusedSimpArgs false

theorem ti_5 : tinf Tryd.prog 5 = some (1, 1, false, some (Value.int IntKind.u8 0)) := by kernel_rfl
theorem un_78 : Tryd.prog.underlying 78 = some (TypeDesc.slice 5) := by kernel_rfl

theorem ptext_s (s : ByteArray) (i : Nat) (hs : s.size ≤ 10000000000000) (hi : i < s.size) : Am.Spec Tryd.prog 75 [A.val (.string s), A.i64 (i : Int)] [] (resA (textM s i i)) [] := by
  refine spec_ofN (n := 57) Tryd.func75 rfl rfl (nb rfl) ?_
  show AW _ _ (⟨[(0, A.val (.string s)), (1, A.i64 (i : Int))], [], []⟩ : St) _
  refine AW.seq ?_
  refine AW.region ?_
  refine AL.go (OpR.plain rfl (r_alloc 101 ti_71 zc_71 rfl rfl (nb rfl))) ?_
  refine AL.go (OpR.plain rfl (r_assign rfl (nb rfl) (by rintro _ ⟨⟩; rfl))) ?_
  refine AL.go (OpR.plain rfl (r_assign rfl (nb rfl) (by rintro _ ⟨⟩; rfl))) ?_
  refine AL.nil ?_
  refine thenN ?_
  refine AW.seq ?_
  refine AW.region ?_
  refine AL.go (OpR.plain rfl (r_assign rfl (nb rfl) (by rintro _ ⟨⟩; rfl))) ?_
  refine AL.nil ?_
  refine thenN ?_
  refine AW.seq ?_
  refine AW.seq ?_
  refine AW.region ?_
  refine AL.go (OpR.plain rfl (r_move rfl (nb rfl) (by rintro _ ⟨⟩))) ?_
  refine AL.go (OpR.plain rfl (r_add rfl rfl (nb rfl) (by first | omega | (simp only [Int.toNat_natCast] at *; omega)) (by first | omega | (simp only [Int.toNat_natCast] at *; omega)))) ?_
  refine AL.go (OpR.plain rfl (r_assign rfl (nb rfl) (by rintro _ ⟨⟩))) ?_
  refine AL.nil ?_
  refine thenN ?_
  refine AW.block ?_
  refine AW.nilOwn 7 50 1 5 rfl rfl ?_
  refine AW.loop (ι := { x : Nat × ByteArray // TxI s i x.1 x.2 }) (fun x => ⟨[(0, A.val (.string s)), (1, A.i64 (i : Int)), (4, A.c (.ref 101 0)), (7, A.c (.own 50 (byteRows x.1.2))), (8, A.i64 (x.1.1 : Int))], [(101, .box [.d (.v (.int .i64 0)), .d (.v (.string { data := #[] })), .d (.v (.int .i64 0)), .d (.v (.int .i64 0))]), (50, .perm 1 5)], []⟩) (fun x => s.size + 1 - x.1.1) ⟨(i + 1, ⟨#[]⟩), TxI.start hi⟩ (weakens_id (.cons rfl (A.le_of_eq (by first | rfl | (simp [A.ren, C.ren, renOf, lk]; done) | (simp [A.ren, C.ren, renOf, lk]; omega) | omega)) (.cons rfl (A.le_of_eq (by first | rfl | (simp [A.ren, C.ren, renOf, lk]; done) | (simp [A.ren, C.ren, renOf, lk]; omega) | omega)) (.cons rfl (A.le_of_eq (by first | rfl | (simp [A.ren, C.ren, renOf, lk]; done) | (simp [A.ren, C.ren, renOf, lk]; omega) | omega)) (.cons rfl (A.le_of_eq (by first | rfl | (simp [A.ren, C.ren, renOf, lk]; done) | (simp [A.ren, C.ren, renOf, lk]; omega) | omega)) (.cons rfl (A.le_of_eq (by first | rfl | (simp [A.ren, C.ren, renOf, lk]; done) | (simp [A.ren, C.ren, renOf, lk]; omega) | omega)) .nil))))) (.cons rfl (Ob.le_refl _) (.cons rfl (Ob.le_refl _) .nil)) rfl rfl rfl rfl) ?_
  rintro ⟨⟨kK, aA⟩, hI⟩
  simp only at hI
  have hIa := hI.a; have hIb := hI.b; have hIl := hI.l
  show AW _ _ (⟨[(0, A.val (.string s)), (1, A.i64 (i : Int)), (4, A.c (.ref 101 0)), (7, A.c (.own 50 (byteRows aA))), (8, A.i64 (kK : Int))], [(101, .box [.d (.v (.int .i64 0)), .d (.v (.string { data := #[] })), .d (.v (.int .i64 0)), .d (.v (.int .i64 0))]), (50, .perm 1 5)], []⟩ : St) _
  refine AW.seq ?_
  refine AW.seq ?_
  refine AW.region ?_
  refine AL.go (OpR.plain rfl (r_move rfl (nb rfl) (by rintro _ ⟨⟩))) ?_
  refine AL.go (OpR.plain rfl (r_move rfl (nb rfl) (by rintro _ ⟨⟩))) ?_
  refine AL.go (OpR.plain rfl (r_lens un_9 rfl (nb rfl))) ?_
  refine AL.go (OpR.plain rfl (r_bin rfl rfl (nb rfl) rfl (run_int_lss _ _ _))) ?_
  refine AL.nil ?_
  refine thenN ?_
  refine AW.condb rfl (fun h1 => ?_) (fun h1 => ?_)
  · have h1n := h1; try simp only [dtt, dff, bqi, bqf, bni, bnf, nt1, nf1, nt0, nf0, ne_eq, ilt, ile, Int.toNat_natCast] at h1n
    refine AW.skip ?_
    refine thenN ?_
    refine AW.seq ?_
    refine AW.block ?_
    refine AW.seq ?_
    refine AW.seq ?_
    refine AW.region ?_
    refine AL.go (OpR.plain rfl (r_move rfl (nb rfl) (by rintro _ ⟨⟩))) ?_
    refine AL.go (OpR.plain rfl (r_move rfl (nb rfl) (by rintro _ ⟨⟩))) ?_
    refine AL.go (OpR.plain rfl (r_byteD un_9 rfl rfl (nb rfl) (by first | omega | (simp only [Int.toNat_natCast] at *; omega)) (by first | omega | (simp only [Int.toNat_natCast] at *; omega)))) ?_
    refine AL.go (OpR.plain rfl (r_bin rfl rfl (nb rfl) rfl (run_int_neq _ _ _))) ?_
    refine AL.nil ?_
    refine thenN ?_
    refine AW.condb rfl (fun h2 => ?_) (fun h2 => ?_)
    · have h2n := h2; try simp only [dtt, dff, bqi, bqf, bni, bnf, nt1, nf1, nt0, nf0, ne_eq, ilt, ile, Int.toNat_natCast] at h2n
      refine AW.seq ?_
      refine AW.region ?_
      refine AL.go (OpR.plain rfl (r_move rfl (nb rfl) (by rintro _ ⟨⟩))) ?_
      refine AL.go (OpR.plain rfl (r_move rfl (nb rfl) (by rintro _ ⟨⟩))) ?_
      refine AL.go (OpR.plain rfl (r_move rfl (nb rfl) (by rintro _ ⟨⟩))) ?_
      refine AL.go (OpR.plain rfl (r_byteD un_9 rfl rfl (nb rfl) (by first | omega | (simp only [Int.toNat_natCast] at *; omega)) (by first | omega | (simp only [Int.toNat_natCast] at *; omega)))) ?_
      refine AL.go (OpR.plain rfl (r_buildSlice un_78 ti_5 rfl rfl rfl rfl rfl (by decide) (by decide) rfl (nb rfl))) ?_
      first | refine AL.go (OpR.plain rfl (r_append 103 un_78 ti_5 rfl rfl rfl rfl (by first | exact .sl | exact .own | exact .nil) rfl (by first | simp | (intro r hr; simp at hr; obtain ⟨_, _, rfl⟩ := hr; rfl) | (intro r hr; simp at hr; simp [hr])) (by first | simp | (intro r hr; simp at hr; obtain ⟨_, _, rfl⟩ := hr; rfl) | (intro r hr; simp at hr; simp [hr])) rfl (by simp [maxLen, byteRows]; have : aA.data.size = aA.size := rfl; omega) (by simp [maxLen, byteRows]; have : aA.data.size = aA.size := rfl; omega) (nb rfl))) ?_ | refine AL.go (OpR.plain rfl (r_appendNil 102 103 un_78 ti_5 rfl rfl rfl (by first | exact .sl | exact .own | exact .nil) rfl (by first | simp | (intro r hr; simp at hr; obtain ⟨_, _, rfl⟩ := hr; rfl) | (intro r hr; simp at hr; simp [hr])) rfl rfl (by decide) (by simp [maxLen, byteRows]; have : aA.data.size = aA.size := rfl; omega) (by simp [maxLen, byteRows]; have : aA.data.size = aA.size := rfl; omega) (nb rfl))) ?_
      refine AL.go (OpR.plain rfl (r_assign rfl (nb rfl) (by rintro _ ⟨⟩))) ?_
      refine AL.nil ?_
      refine thenN ?_
      refine AW.exit ?_
      refine thenX ?_
      refine inbE ?_
      refine thenN ?_
      refine AW.region ?_
      refine AL.go (OpR.plain rfl (r_move rfl (nb rfl) (by rintro _ ⟨⟩))) ?_
      refine AL.go (OpR.plain rfl (r_add rfl rfl (nb rfl) (by first | omega | (simp only [Int.toNat_natCast] at *; omega)) (by first | omega | (simp only [Int.toNat_natCast] at *; omega)))) ?_
      refine AL.go (OpR.plain rfl (r_assign rfl (nb rfl) (by rintro _ ⟨⟩))) ?_
      refine AL.nil ?_
      refine thenN ?_
      refine ⟨⟨(kK + 1, aA.push (bAt s kK)), hI.next (by omega) (by assumption)⟩, by simp only; omega, weakens_ren [(50, 103)] (.cons rfl (A.le_of_eq (by first | rfl | (simp [A.ren, C.ren, renOf, lk]; done) | (simp [A.ren, C.ren, renOf, lk]; omega) | omega)) (.cons rfl (A.le_of_eq (by first | rfl | (simp [A.ren, C.ren, renOf, lk]; done) | (simp [A.ren, C.ren, renOf, lk]; omega) | omega)) (.cons rfl (A.le_of_eq (by first | rfl | (simp [A.ren, C.ren, renOf, lk]; done) | (simp [A.ren, C.ren, renOf, lk]; omega) | omega)) (.cons rfl (A.le_of_eq (by simp [byteRows, ByteArray.push, A.ren, C.ren, renOf, lk])) (.cons rfl (A.le_of_eq (by first | rfl | (simp [A.ren, C.ren, renOf, lk]; done) | (simp [A.ren, C.ren, renOf, lk]; omega) | omega)) .nil))))) (.cons rfl (Ob.le_refl _) (.cons rfl (Ob.le_refl _) .nil)) rfl rfl rfl rfl rfl rfl⟩
    · have h2n := h2; try simp only [dtt, dff, bqi, bqf, bni, bnf, nt1, nf1, nt0, nf0, ne_eq, ilt, ile, Int.toNat_natCast] at h2n
      refine AW.skip ?_
      refine thenN ?_
      refine AW.seq ?_
      refine AW.seq ?_
      refine AW.region ?_
      refine AL.go (OpR.plain rfl (r_move rfl (nb rfl) (by rintro _ ⟨⟩))) ?_
      refine AL.go (OpR.plain rfl (r_add rfl rfl (nb rfl) (by first | omega | (simp only [Int.toNat_natCast] at *; omega)) (by first | omega | (simp only [Int.toNat_natCast] at *; omega)))) ?_
      refine AL.go (OpR.plain rfl (r_move rfl (nb rfl) (by rintro _ ⟨⟩))) ?_
      refine AL.go (OpR.plain rfl (r_lens un_9 rfl (nb rfl))) ?_
      refine AL.go (OpR.plain rfl (r_bin rfl rfl (nb rfl) rfl (run_int_lss _ _ _))) ?_
      refine AL.go (OpR.plain rfl (r_move rfl (nb rfl) (by rintro _ ⟨⟩))) ?_
      refine AL.ifb (t := 32) rfl (fun h3 => ?_) (fun h3 => ?_)
      · have h3n := h3; try simp only [dtt, dff, bqi, bqf, bni, bnf, nt1, nf1, nt0, nf0, ne_eq, ilt, ile, Int.toNat_natCast] at h3n
        refine AL.go (OpR.onb rfl rfl (nb rfl) rfl (h3) (r_move rfl (nb rfl) (by rintro _ ⟨⟩))) ?_
        refine AL.go (OpR.onb rfl rfl (nb rfl) rfl (h3) (r_move rfl (nb rfl) (by rintro _ ⟨⟩))) ?_
        refine AL.go (OpR.onb rfl rfl (nb rfl) rfl (h3) (r_add rfl rfl (nb rfl) (by first | omega | (simp only [Int.toNat_natCast] at *; omega)) (by first | omega | (simp only [Int.toNat_natCast] at *; omega)))) ?_
        refine AL.go (OpR.onb rfl rfl (nb rfl) rfl (h3) (r_byteD un_9 rfl rfl (nb rfl) (by first | omega | (simp only [Int.toNat_natCast] at *; omega)) (by first | omega | (simp only [Int.toNat_natCast] at *; omega)))) ?_
        refine AL.go (OpR.onb rfl rfl (nb rfl) rfl (h3) (r_bin rfl rfl (nb rfl) rfl (run_int_eql _ _ _))) ?_
        refine AL.go (OpR.plain rfl (r_pickTb rfl (h3) rfl (nb rfl) (by rintro _ ⟨⟩))) ?_
        refine AL.nil ?_
        refine thenN ?_
        refine AW.condb rfl (fun h4 => ?_) (fun h4 => ?_)
        · have h4n := h4; try simp only [dtt, dff, bqi, bqf, bni, bnf, nt1, nf1, nt0, nf0, ne_eq, ilt, ile, Int.toNat_natCast] at h4n
          refine AW.seq ?_
          refine AW.region ?_
          refine AL.go (OpR.plain rfl (r_move rfl (nb rfl) (by rintro _ ⟨⟩))) ?_
          refine AL.go (OpR.plain rfl (r_buildSlice un_78 ti_5 rfl rfl rfl rfl rfl (by decide) (by decide) rfl (nb rfl))) ?_
          first | refine AL.go (OpR.plain rfl (r_append 103 un_78 ti_5 rfl rfl rfl rfl (by first | exact .sl | exact .own | exact .nil) rfl (by first | simp | (intro r hr; simp at hr; obtain ⟨_, _, rfl⟩ := hr; rfl) | (intro r hr; simp at hr; simp [hr])) (by first | simp | (intro r hr; simp at hr; obtain ⟨_, _, rfl⟩ := hr; rfl) | (intro r hr; simp at hr; simp [hr])) rfl (by simp [maxLen, byteRows]; have : aA.data.size = aA.size := rfl; omega) (by simp [maxLen, byteRows]; have : aA.data.size = aA.size := rfl; omega) (nb rfl))) ?_ | refine AL.go (OpR.plain rfl (r_appendNil 102 103 un_78 ti_5 rfl rfl rfl (by first | exact .sl | exact .own | exact .nil) rfl (by first | simp | (intro r hr; simp at hr; obtain ⟨_, _, rfl⟩ := hr; rfl) | (intro r hr; simp at hr; simp [hr])) rfl rfl (by decide) (by simp [maxLen, byteRows]; have : aA.data.size = aA.size := rfl; omega) (by simp [maxLen, byteRows]; have : aA.data.size = aA.size := rfl; omega) (nb rfl))) ?_
          refine AL.go (OpR.plain rfl (r_assign rfl (nb rfl) (by rintro _ ⟨⟩))) ?_
          refine AL.nil ?_
          refine thenN ?_
          refine AW.seq ?_
          refine AW.region ?_
          refine AL.go (OpR.plain rfl (r_move rfl (nb rfl) (by rintro _ ⟨⟩))) ?_
          refine AL.go (OpR.plain rfl (r_add rfl rfl (nb rfl) (by first | omega | (simp only [Int.toNat_natCast] at *; omega)) (by first | omega | (simp only [Int.toNat_natCast] at *; omega)))) ?_
          refine AL.go (OpR.plain rfl (r_assign rfl (nb rfl) (by rintro _ ⟨⟩))) ?_
          refine AL.nil ?_
          refine thenN ?_
          refine AW.exit ?_
          refine thenX ?_
          refine inbE ?_
          refine thenN ?_
          refine AW.region ?_
          refine AL.go (OpR.plain rfl (r_move rfl (nb rfl) (by rintro _ ⟨⟩))) ?_
          refine AL.go (OpR.plain rfl (r_add rfl rfl (nb rfl) (by first | omega | (simp only [Int.toNat_natCast] at *; omega)) (by first | omega | (simp only [Int.toNat_natCast] at *; omega)))) ?_
          refine AL.go (OpR.plain rfl (r_assign rfl (nb rfl) (by rintro _ ⟨⟩))) ?_
          refine AL.nil ?_
          refine thenN ?_
          refine ⟨⟨(kK + 2, aA.push 39), hI.next2 (by omega) (by simp_all) (by simp_all)⟩, by simp only; omega, weakens_ren [(50, 103)] (.cons rfl (A.le_of_eq (by first | rfl | (simp [A.ren, C.ren, renOf, lk]; done) | (simp [A.ren, C.ren, renOf, lk]; omega) | omega)) (.cons rfl (A.le_of_eq (by first | rfl | (simp [A.ren, C.ren, renOf, lk]; done) | (simp [A.ren, C.ren, renOf, lk]; omega) | omega)) (.cons rfl (A.le_of_eq (by first | rfl | (simp [A.ren, C.ren, renOf, lk]; done) | (simp [A.ren, C.ren, renOf, lk]; omega) | omega)) (.cons rfl (A.le_of_eq (by simp [byteRows, ByteArray.push, A.ren, C.ren, renOf, lk])) (.cons rfl (A.le_of_eq (by first | rfl | (simp [A.ren, C.ren, renOf, lk]; done) | (simp [A.ren, C.ren, renOf, lk]; omega) | omega)) .nil))))) (.cons rfl (Ob.le_refl _) (.cons rfl (Ob.le_refl _) .nil)) rfl rfl rfl rfl rfl rfl⟩
        · have h4n := h4; try simp only [dtt, dff, bqi, bqf, bni, bnf, nt1, nf1, nt0, nf0, ne_eq, ilt, ile, Int.toNat_natCast] at h4n
          refine AW.skip ?_
          refine thenN ?_
          refine AW.seq ?_
          refine AW.seq ?_
          refine AW.region ?_
          refine AL.go (OpR.plain rfl (r_move rfl (nb rfl) (by rintro _ ⟨⟩))) ?_
          refine AL.go (OpR.plain rfl (r_len un_78 rfl (by first | exact .sl | exact .own | exact .row | exact .nil) (by intro _ h; cases h) (nb rfl) (by rintro _ ⟨⟩))) ?_
          refine AL.go (OpR.plain rfl (r_bin rfl rfl (nb rfl) rfl (run_int_gtr _ _ _))) ?_
          refine AL.nil ?_
          refine thenN ?_
          refine AW.condb rfl (fun h5 => ?_) (fun h5 => ?_)
          · have h5n := h5; try simp only [dtt, dff, bqi, bqf, bni, bnf, nt1, nf1, nt0, nf0, ne_eq, ilt, ile, Int.toNat_natCast] at h5n
            refine AW.seq ?_
            refine AW.region ?_
            refine AL.go (OpR.plain rfl (r_build pl_71 rfl zc_71 rfl rfl (by simp only [fillC, putAt, gez, ges, if_true, and_self, Nat.reduceLeDiff, true_and, tks, tkz, tkn, dps, dpz, cap, nap, apn, lnc, lnn, zad, Nat.reduceAdd, adz]; rfl) (nb rfl))) ?_
            refine AL.go (OpR.plain rfl (r_move rfl (nb rfl) (by rintro _ ⟨⟩))) ?_
            refine AL.go (OpR.plain rfl (r_storeN ti_71 rfl rfl rfl rfl rfl (nb rfl) (by simp only [putAt, tks, tkz, tkn, dps, dpz, cap, nap, apn, lnc, lnn, zad, Nat.reduceAdd, adz]; rfl) (by rintro _ ⟨⟩))) ?_
            refine AL.go (OpR.plain rfl (r_assign rfl (nb rfl) (by rintro _ ⟨⟩))) ?_
            refine AL.go (OpR.plain rfl (r_assign rfl (nb rfl) (by rintro _ ⟨⟩; rfl))) ?_
            refine AL.nil ?_
            refine thenN ?_
            refine AW.ret ?_
            refine thenR ?_
            refine inbR ?_
            refine thenR ?_
            refine thenR ?_
            refine inbR ?_
            refine thenR ?_
            refine fin_id (.inr rfl) (ends_of rfl (.cell ti_71 rfl rfl (by simp only [loaded, if_true, ler, tks, tkz, tkn, dps, dpz, cap, nap, apn, lnc, lnn, zad, Nat.reduceAdd, adz]; rfl) (.tmp rfl (.tmp rfl .nil)))) ?_ .nil rfl rfl rfl rfl
            simp only [retA]
            first | (rw [hI.over (by omega)]; exact A.le_refl _) | (refine A.le_of_eq ?_; rw [hI.stop (by omega) (by omega) (by rintro ⟨hh, hh2⟩; first | omega | (simp_all; done)) ]; split <;> first | (simp_all; done) | (exfalso; rename_i hh; (try simp only [byteRows, List.length_map, Array.length_toList, ByteArray.size_data] at *); omega))
          · have h5n := h5; try simp only [dtt, dff, bqi, bqf, bni, bnf, nt1, nf1, nt0, nf0, ne_eq, ilt, ile, Int.toNat_natCast] at h5n
            refine AW.skip ?_
            refine thenN ?_
            refine AW.seq ?_
            refine AW.region ?_
            refine AL.go (OpR.plain rfl (r_move rfl (nb rfl) (by rintro _ ⟨⟩))) ?_
            refine AL.go (OpR.plain rfl (r_bts un_78 un_5 un_9 rfl (by first | exact .own | exact .sl | exact .nil) rfl (nb rfl))) ?_
            refine AL.go (OpR.plain rfl (r_move rfl (nb rfl) (by rintro _ ⟨⟩))) ?_
            refine AL.go (OpR.plain rfl (r_build pl_71 rfl zc_71 rfl rfl (by simp only [fillC, putAt, gez, ges, if_true, and_self, Nat.reduceLeDiff, true_and, tks, tkz, tkn, dps, dpz, cap, nap, apn, lnc, lnn, zad, Nat.reduceAdd, adz]; rfl) (nb rfl))) ?_
            refine AL.go (OpR.plain rfl (r_move rfl (nb rfl) (by rintro _ ⟨⟩))) ?_
            refine AL.go (OpR.plain rfl (r_add rfl rfl (nb rfl) (by first | omega | (simp only [Int.toNat_natCast] at *; omega)) (by first | omega | (simp only [Int.toNat_natCast] at *; omega)))) ?_
            refine AL.go (OpR.plain rfl (r_storeN ti_71 rfl rfl rfl rfl rfl (nb rfl) (by simp only [putAt, tks, tkz, tkn, dps, dpz, cap, nap, apn, lnc, lnn, zad, Nat.reduceAdd, adz]; rfl) (by rintro _ ⟨⟩))) ?_
            refine AL.go (OpR.plain rfl (r_assign rfl (nb rfl) (by rintro _ ⟨⟩))) ?_
            refine AL.go (OpR.plain rfl (r_assign rfl (nb rfl) (by rintro _ ⟨⟩; rfl))) ?_
            refine AL.nil ?_
            refine thenN ?_
            refine AW.ret ?_
            refine inbR ?_
            refine thenR ?_
            refine thenR ?_
            refine inbR ?_
            refine thenR ?_
            refine fin_id (.inr rfl) (ends_of rfl (.cell ti_71 rfl rfl (by simp only [loaded, if_true, ler, tks, tkz, tkn, dps, dpz, cap, nap, apn, lnc, lnn, zad, Nat.reduceAdd, adz]; rfl) (.tmp rfl (.tmp rfl .nil)))) ?_ .nil rfl rfl rfl rfl
            simp only [retA]
            first | (rw [hI.over (by omega)]; exact A.le_refl _) | (refine A.le_of_eq ?_; rw [hI.stop (by omega) (by omega) (by rintro ⟨hh, hh2⟩; first | omega | (simp_all; done)) ]; split <;> first | (simp_all; done) | (exfalso; rename_i hh; (try simp only [byteRows, List.length_map, Array.length_toList, ByteArray.size_data] at *); omega))
      · have h3n := h3; try simp only [dtt, dff, bqi, bqf, bni, bnf, nt1, nf1, nt0, nf0, ne_eq, ilt, ile, Int.toNat_natCast] at h3n
        refine AL.go (.off rfl rfl (nb rfl) rfl (by rw [h3]; decide) rfl (nb rfl)) ?_
        refine AL.go (.off rfl rfl (nb rfl) rfl (by rw [h3]; decide) rfl (nb rfl)) ?_
        refine AL.go (.off rfl rfl (nb rfl) rfl (by rw [h3]; decide) rfl (nb rfl)) ?_
        refine AL.go (.off rfl rfl (nb rfl) rfl (by rw [h3]; decide) rfl (nb rfl)) ?_
        refine AL.go (.off rfl rfl (nb rfl) rfl (by rw [h3]; decide) rfl (nb rfl)) ?_
        refine AL.go (OpR.plain rfl (r_pickFb rfl (h3) rfl (nb rfl) (by rintro _ ⟨⟩; rfl))) ?_
        refine AL.nil ?_
        refine thenN ?_
        refine AW.condF rfl (rfl) ?_
        refine AW.skip ?_
        refine thenN ?_
        refine AW.seq ?_
        refine AW.seq ?_
        refine AW.region ?_
        refine AL.go (OpR.plain rfl (r_move rfl (nb rfl) (by rintro _ ⟨⟩))) ?_
        refine AL.go (OpR.plain rfl (r_len un_78 rfl (by first | exact .sl | exact .own | exact .row | exact .nil) (by intro _ h; cases h) (nb rfl) (by rintro _ ⟨⟩))) ?_
        refine AL.go (OpR.plain rfl (r_bin rfl rfl (nb rfl) rfl (run_int_gtr _ _ _))) ?_
        refine AL.nil ?_
        refine thenN ?_
        refine AW.condb rfl (fun h6 => ?_) (fun h6 => ?_)
        · have h6n := h6; try simp only [dtt, dff, bqi, bqf, bni, bnf, nt1, nf1, nt0, nf0, ne_eq, ilt, ile, Int.toNat_natCast] at h6n
          refine AW.seq ?_
          refine AW.region ?_
          refine AL.go (OpR.plain rfl (r_build pl_71 rfl zc_71 rfl rfl (by simp only [fillC, putAt, gez, ges, if_true, and_self, Nat.reduceLeDiff, true_and, tks, tkz, tkn, dps, dpz, cap, nap, apn, lnc, lnn, zad, Nat.reduceAdd, adz]; rfl) (nb rfl))) ?_
          refine AL.go (OpR.plain rfl (r_move rfl (nb rfl) (by rintro _ ⟨⟩))) ?_
          refine AL.go (OpR.plain rfl (r_storeN ti_71 rfl rfl rfl rfl rfl (nb rfl) (by simp only [putAt, tks, tkz, tkn, dps, dpz, cap, nap, apn, lnc, lnn, zad, Nat.reduceAdd, adz]; rfl) (by rintro _ ⟨⟩))) ?_
          refine AL.go (OpR.plain rfl (r_assign rfl (nb rfl) (by rintro _ ⟨⟩))) ?_
          refine AL.go (OpR.plain rfl (r_assign rfl (nb rfl) (by rintro _ ⟨⟩; rfl))) ?_
          refine AL.nil ?_
          refine thenN ?_
          refine AW.ret ?_
          refine thenR ?_
          refine inbR ?_
          refine thenR ?_
          refine thenR ?_
          refine inbR ?_
          refine thenR ?_
          refine fin_id (.inr rfl) (ends_of rfl (.cell ti_71 rfl rfl (by simp only [loaded, if_true, ler, tks, tkz, tkn, dps, dpz, cap, nap, apn, lnc, lnn, zad, Nat.reduceAdd, adz]; rfl) (.tmp rfl (.tmp rfl .nil)))) ?_ .nil rfl rfl rfl rfl
          simp only [retA]
          first | (rw [hI.over (by omega)]; exact A.le_refl _) | (refine A.le_of_eq ?_; rw [hI.stop (by omega) (by omega) (by rintro ⟨hh, hh2⟩; first | omega | (simp_all; done)) ]; split <;> first | (simp_all; done) | (exfalso; rename_i hh; (try simp only [byteRows, List.length_map, Array.length_toList, ByteArray.size_data] at *); omega))
        · have h6n := h6; try simp only [dtt, dff, bqi, bqf, bni, bnf, nt1, nf1, nt0, nf0, ne_eq, ilt, ile, Int.toNat_natCast] at h6n
          refine AW.skip ?_
          refine thenN ?_
          refine AW.seq ?_
          refine AW.region ?_
          refine AL.go (OpR.plain rfl (r_move rfl (nb rfl) (by rintro _ ⟨⟩))) ?_
          refine AL.go (OpR.plain rfl (r_bts un_78 un_5 un_9 rfl (by first | exact .own | exact .sl | exact .nil) rfl (nb rfl))) ?_
          refine AL.go (OpR.plain rfl (r_move rfl (nb rfl) (by rintro _ ⟨⟩))) ?_
          refine AL.go (OpR.plain rfl (r_build pl_71 rfl zc_71 rfl rfl (by simp only [fillC, putAt, gez, ges, if_true, and_self, Nat.reduceLeDiff, true_and, tks, tkz, tkn, dps, dpz, cap, nap, apn, lnc, lnn, zad, Nat.reduceAdd, adz]; rfl) (nb rfl))) ?_
          refine AL.go (OpR.plain rfl (r_move rfl (nb rfl) (by rintro _ ⟨⟩))) ?_
          refine AL.go (OpR.plain rfl (r_add rfl rfl (nb rfl) (by first | omega | (simp only [Int.toNat_natCast] at *; omega)) (by first | omega | (simp only [Int.toNat_natCast] at *; omega)))) ?_
          refine AL.go (OpR.plain rfl (r_storeN ti_71 rfl rfl rfl rfl rfl (nb rfl) (by simp only [putAt, tks, tkz, tkn, dps, dpz, cap, nap, apn, lnc, lnn, zad, Nat.reduceAdd, adz]; rfl) (by rintro _ ⟨⟩))) ?_
          refine AL.go (OpR.plain rfl (r_assign rfl (nb rfl) (by rintro _ ⟨⟩))) ?_
          refine AL.go (OpR.plain rfl (r_assign rfl (nb rfl) (by rintro _ ⟨⟩; rfl))) ?_
          refine AL.nil ?_
          refine thenN ?_
          refine AW.ret ?_
          refine inbR ?_
          refine thenR ?_
          refine thenR ?_
          refine inbR ?_
          refine thenR ?_
          refine fin_id (.inr rfl) (ends_of rfl (.cell ti_71 rfl rfl (by simp only [loaded, if_true, ler, tks, tkz, tkn, dps, dpz, cap, nap, apn, lnc, lnn, zad, Nat.reduceAdd, adz]; rfl) (.tmp rfl (.tmp rfl .nil)))) ?_ .nil rfl rfl rfl rfl
          simp only [retA]
          first | (rw [hI.over (by omega)]; exact A.le_refl _) | (refine A.le_of_eq ?_; rw [hI.stop (by omega) (by omega) (by rintro ⟨hh, hh2⟩; first | omega | (simp_all; done)) ]; split <;> first | (simp_all; done) | (exfalso; rename_i hh; (try simp only [byteRows, List.length_map, Array.length_toList, ByteArray.size_data] at *); omega))
  · have h1n := h1; try simp only [dtt, dff, bqi, bqf, bni, bnf, nt1, nf1, nt0, nf0, ne_eq, ilt, ile, Int.toNat_natCast] at h1n
    refine AW.exit ?_
    refine thenX ?_
    refine thenX ?_
    refine inbE ?_
    refine thenN ?_
    refine AW.seq ?_
    refine AW.region ?_
    refine AL.go (OpR.plain rfl (r_build pl_71 rfl zc_71 rfl rfl (by simp only [fillC, putAt, gez, ges, if_true, and_self, Nat.reduceLeDiff, true_and, tks, tkz, tkn, dps, dpz, cap, nap, apn, lnc, lnn, zad, Nat.reduceAdd, adz]; rfl) (nb rfl))) ?_
    refine AL.go (OpR.plain rfl (r_move rfl (nb rfl) (by rintro _ ⟨⟩))) ?_
    refine AL.go (OpR.plain rfl (r_storeN ti_71 rfl rfl rfl rfl rfl (nb rfl) (by simp only [putAt, tks, tkz, tkn, dps, dpz, cap, nap, apn, lnc, lnn, zad, Nat.reduceAdd, adz]; rfl) (by rintro _ ⟨⟩))) ?_
    refine AL.go (OpR.plain rfl (r_assign rfl (nb rfl) (by rintro _ ⟨⟩))) ?_
    refine AL.go (OpR.plain rfl (r_assign rfl (nb rfl) (by rintro _ ⟨⟩; rfl))) ?_
    refine AL.nil ?_
    refine thenN ?_
    refine AW.ret ?_
    refine fin_id (.inr rfl) (ends_of rfl (.cell ti_71 rfl rfl (by simp only [loaded, if_true, ler, tks, tkz, tkn, dps, dpz, cap, nap, apn, lnc, lnn, zad, Nat.reduceAdd, adz]; rfl) (.tmp rfl (.tmp rfl .nil)))) ?_ .nil rfl rfl rfl rfl
    simp only [retA]
    first | (rw [hI.over (by omega)]; exact A.le_refl _) | (refine A.le_of_eq ?_; rw [hI.stop (by omega) (by omega) (by rintro ⟨hh, hh2⟩; first | omega | (simp_all; done)) ]; split <;> first | (simp_all; done) | (exfalso; rename_i hh; (try simp only [byteRows, List.length_map, Array.length_toList, ByteArray.size_data] at *); omega))


end Go.Par
