import Derived.Test.YtihcfphmikebgaaDoorPrt25
namespace Go.Par
open Go Go.Am Go.Proofs Go.RowKit
set_option linter.unusedVariables false
set_option linter.unusedSimpArgs false

theorem en_33 : enters Tryd.prog 33 = true := by kernel_rfl

set_option maxHeartbeats 1000000 in
theorem rquery_p (q : Qy) (hQ : QOk q) : Am.Spec Tryd.prog 15 [qyA q] [] (A.val (.string (queryM q))) [] := by
  refine spec_ofN (n := 84) Tryd.func15 rfl rfl (nb rfl) ?_
  show AW _ _ (⟨[(0, qyA q)], [], []⟩ : St) _
  have hL := listM_take q.items.length hQ.il hQ.itemsS
  rw [List.take_length] at hL
  have hG := listM_take q.group.length hQ.gl hQ.groupS
  rw [List.take_length] at hG
  have hW := hQ.whrS
  have hfl := hQ.fl
  refine AW.seq ?_
  refine AW.region ?_
  refine AL.go (OpR.plain rfl (r_box 101 rfl rfl rfl (nb rfl) (by rintro _ ⟨⟩))) ?_
  refine AL.go (OpR.plain rfl (r_assign rfl (nb rfl) (by rintro _ ⟨⟩; rfl))) ?_
  refine AL.nil ?_
  refine thenN ?_
  refine AW.seq ?_
  refine AW.region ?_
  first | refine AL.go (OpR.plain rfl (r_fieldAddr fo_37_0 (by decide) rfl (nb rfl))) ?_ | refine AL.go (OpR.plain rfl (r_fieldAddrp fo_37_0 (by decide) rfl (nb rfl))) ?_
  first | refine AL.go (OpR.plain rfl (r_load ti_25 rfl rfl rfl (nb rfl))) ?_ | refine AL.go (OpR.plain rfl (r_loadp ti_25 rfl rfl (nb rfl))) ?_
  refine AL.go (OpR.plain rfl (r_callFun (rlist_p q.items hQ.il (fun x hx => (prs_all (hQ.items x hx)).2) hQ.itemsS) en_33 rfl rfl rfl rfl (.cons (A.le_refl _) .nil) rfl (nb rfl))) ?_
  refine AL.go (OpR.plain rfl (r_bin rfl rfl (nb rfl) rfl (run_str_add _ _ (by first | omega | (simp only [List.length_map, Int.toNat_natCast] at *; omega) | (simp only [ByteArray.size_append, sz1, sz2, sz4, sz6, sz7, sz10, Int.toNat_natCast] at *; omega))))) ?_
  refine AL.go (OpR.plain rfl (r_bin rfl rfl (nb rfl) rfl (run_str_add _ _ (by first | omega | (simp only [List.length_map, Int.toNat_natCast] at *; omega) | (simp only [ByteArray.size_append, sz1, sz2, sz4, sz6, sz7, sz10, Int.toNat_natCast] at *; omega))))) ?_
  refine AL.go (OpR.plain rfl (r_assign rfl (nb rfl) (by rintro _ ⟨⟩))) ?_
  refine AL.nil ?_
  refine thenN ?_
  refine AW.seq ?_
  refine AW.seq ?_
  refine AW.region ?_
  refine AL.go (OpR.plain rfl (r_assign rfl (nb rfl) (by rintro _ ⟨⟩; rfl))) ?_
  refine AL.nil ?_
  refine thenN ?_
  refine AW.block ?_
  refine AW.loop (ι := { x : Nat // x ≤ q.frm.length }) (fun x => ⟨[(1, A.c (.ref 101 0)), (4, A.i64 (x.1 : Int)), (3, A.val (.string (headM q x.1)))], [(101, .box (qyC q))], []⟩) (fun x => q.frm.length - x.1) ⟨0, Nat.zero_le _⟩ (weakens_id (.cons rfl (A.le_of_eq (by first | rfl | (simp [A.ren, C.ren, renOf, lk]; done) | (simp [A.ren, C.ren, renOf, lk]; omega) | omega)) (.cons rfl (A.le_of_eq (by first | rfl | (simp [A.ren, C.ren, renOf, lk]; done) | (simp [A.ren, C.ren, renOf, lk]; omega) | omega)) (.cons rfl (A.le_of_eq (by simp only [headM, fromsM, bnil]; try rfl)) .nil))) (.cons rfl (Ob.le_refl _) .nil) rfl rfl rfl rfl) ?_
  rintro ⟨i, hI⟩
  have hF := frGetD hQ i
  have hH := headM_size hQ hI
  have hJ := joinW_size (q.frm.getD i Fr.zero).join i
  show AW _ _ (⟨[(1, A.c (.ref 101 0)), (4, A.i64 (i : Int)), (3, A.val (.string (headM q i)))], [(101, .box (qyC q))], []⟩ : St) _
  refine AW.seq ?_
  refine AW.seq ?_
  refine AW.region ?_
  refine AL.go (OpR.plain rfl (r_move rfl (nb rfl) (by rintro _ ⟨⟩))) ?_
  first | refine AL.go (OpR.plain rfl (r_fieldAddr fo_37_1 (by decide) rfl (nb rfl))) ?_ | refine AL.go (OpR.plain rfl (r_fieldAddrp fo_37_1 (by decide) rfl (nb rfl))) ?_
  first | refine AL.go (OpR.plain rfl (r_load ti_35 rfl rfl rfl (nb rfl))) ?_ | refine AL.go (OpR.plain rfl (r_loadp ti_35 rfl rfl (nb rfl))) ?_
  refine AL.go (OpR.plain rfl (r_len un_35 rfl (by first | exact .sl | exact .own | exact .row | exact .nil) (by intro _ h; cases h) (nb rfl) (by rintro _ ⟨⟩))) ?_
  refine AL.go (OpR.plain rfl (r_bin rfl rfl (nb rfl) rfl (run_int_lss _ _ _))) ?_
  refine AL.nil ?_
  refine thenN ?_
  refine AW.condb rfl (fun h1 => ?_) (fun h1 => ?_)
  · have h1n := h1; try simp only [dtt, dff, bqi, bqf, bni, bnf, nt1, nf1, nt0, nf0, ne_eq, ilt, ile, rows_length, Int.toNat_natCast, List.length_map] at h1n
    refine AW.skip ?_
    refine thenN ?_
    refine AW.seq ?_
    refine AW.block ?_
    refine AW.seq ?_
    refine AW.region ?_
    first | refine AL.go (OpR.plain rfl (r_fieldAddr fo_37_1 (by decide) rfl (nb rfl))) ?_ | refine AL.go (OpR.plain rfl (r_fieldAddrp fo_37_1 (by decide) rfl (nb rfl))) ?_
    first | refine AL.go (OpR.plain rfl (r_load ti_35 rfl rfl rfl (nb rfl))) ?_ | refine AL.go (OpR.plain rfl (r_loadp ti_35 rfl rfl (nb rfl))) ?_
    refine AL.go (OpR.plain rfl (r_move rfl (nb rfl) (by rintro _ ⟨⟩))) ?_
    refine AL.go (OpR.plain rfl (r_indexAddr un_35 ti_57 rfl (by first | exact .inl rfl | exact .inr ⟨_, rfl⟩) rfl fr_len (by first | omega | (simp only [List.length_map, Int.toNat_natCast] at *; omega) | (simp only [ByteArray.size_append, sz1, sz2, sz4, sz6, sz7, sz10, Int.toNat_natCast] at *; omega)) (fr_atn (by first | omega | (simp at *; omega))) (nb rfl))) ?_
    first | refine AL.go (OpR.plain rfl (r_load ti_57 rfl rfl (by simp only [loaded, mpc, mpn, if_true, ler, tks, tkz, tkn, dps, dpz, cap, nap, apn, lnc, lnn, zad, Nat.reduceAdd, adz]; rfl) (nb rfl))) ?_ | refine AL.go (OpR.plain rfl (r_loadp ti_57 rfl (by simp only [loaded, mpc, mpn, if_true, ler, tks, tkz, tkn, dps, dpz, cap, nap, apn, lnc, lnn, zad, Nat.reduceAdd, adz]; rfl) (nb rfl))) ?_
    refine AL.go (OpR.plain rfl (r_alloc 102 ti_57 zc_57 rfl rfl (nb rfl))) ?_
    refine AL.go (OpR.plain rfl (r_storeN ti_57 rfl rfl rfl rfl rfl (nb rfl) (by simp only [putAt, tks, tkz, tkn, dps, dpz, cap, nap, apn, lnc, lnn, zad, Nat.reduceAdd, adz]; rfl) (by rintro _ ⟨⟩))) ?_
    refine AL.nil ?_
    refine thenN ?_
    refine AW.seq ?_
    refine AW.seq ?_
    refine AW.region ?_
    first | refine AL.go (OpR.plain rfl (r_fieldAddr fo_57_0 (by decide) rfl (nb rfl))) ?_ | refine AL.go (OpR.plain rfl (r_fieldAddrp fo_57_0 (by decide) rfl (nb rfl))) ?_
    first | refine AL.go (OpR.plain rfl (r_load ti_3 rfl rfl rfl (nb rfl))) ?_ | refine AL.go (OpR.plain rfl (r_loadp ti_3 rfl rfl (nb rfl))) ?_
    refine AL.go (OpR.plain rfl (r_bin rfl rfl (nb rfl) rfl (run_int_geq _ _ _))) ?_
    refine AL.go (OpR.plain rfl (r_move rfl (nb rfl) (by rintro _ ⟨⟩))) ?_
    refine AL.ifb (t := 26) rfl (fun h2 => ?_) (fun h2 => ?_)
    · have h2n := h2; try simp only [dtt, dff, bqi, bqf, bni, bnf, nt1, nf1, nt0, nf0, ne_eq, ilt, ile, rows_length, Int.toNat_natCast, List.length_map] at h2n
      first | refine AL.go (OpR.onb rfl rfl (nb rfl) rfl (h2) (r_fieldAddr fo_57_0 (by decide) rfl (nb rfl))) ?_ | refine AL.go (OpR.onb rfl rfl (nb rfl) rfl (h2) (r_fieldAddrp fo_57_0 (by decide) rfl (nb rfl))) ?_
      first | refine AL.go (OpR.onb rfl rfl (nb rfl) rfl (h2) (r_load ti_3 rfl rfl rfl (nb rfl))) ?_ | refine AL.go (OpR.onb rfl rfl (nb rfl) rfl (h2) (r_loadp ti_3 rfl rfl (nb rfl))) ?_
      refine AL.go (OpR.onb rfl rfl (nb rfl) rfl (h2) (r_bin rfl rfl (nb rfl) rfl (run_int_leq _ _ _))) ?_
      refine AL.go (OpR.plain rfl (r_pickTb rfl (h2) rfl (nb rfl) (by rintro _ ⟨⟩))) ?_
      refine AL.nil ?_
      refine thenN ?_
      refine AW.condb rfl (fun h3 => ?_) (fun h3 => ?_)
      · have h3n := h3; try simp only [dtt, dff, bqi, bqf, bni, bnf, nt1, nf1, nt0, nf0, ne_eq, ilt, ile, rows_length, Int.toNat_natCast, List.length_map] at h3n
        refine AW.region ?_
        refine AL.go (OpR.plain rfl (r_move rfl (nb rfl) (by rintro _ ⟨⟩))) ?_
        refine AL.go (OpR.plain rfl (r_buildSlice un_60 ti_9 rfl rfl rfl rfl rfl (by decide) (by decide) rfl (nb rfl))) ?_
        first | refine AL.go (OpR.plain rfl (r_fieldAddr fo_57_0 (by decide) rfl (nb rfl))) ?_ | refine AL.go (OpR.plain rfl (r_fieldAddrp fo_57_0 (by decide) rfl (nb rfl))) ?_
        first | refine AL.go (OpR.plain rfl (r_load ti_3 rfl rfl rfl (nb rfl))) ?_ | refine AL.go (OpR.plain rfl (r_loadp ti_3 rfl rfl (nb rfl))) ?_
        refine AL.go (OpR.plain rfl (r_sub rfl rfl (nb rfl) (by first | omega | (simp only [List.length_map, Int.toNat_natCast] at *; omega) | (simp only [ByteArray.size_append, sz1, sz2, sz4, sz6, sz7, sz10, Int.toNat_natCast] at *; omega)) (by first | omega | (simp only [List.length_map, Int.toNat_natCast] at *; omega) | (simp only [ByteArray.size_append, sz1, sz2, sz4, sz6, sz7, sz10, Int.toNat_natCast] at *; omega)))) ?_
        refine AL.go (OpR.plain rfl (r_indexAddr un_60 ti_9 rfl (.inl rfl) rfl (by decide) (by omega) (joins_at (by omega) (by omega) i) (nb rfl))) ?_
        first | refine AL.go (OpR.plain rfl (r_load ti_9 rfl rfl rfl (nb rfl))) ?_ | refine AL.go (OpR.plain rfl (r_loadp ti_9 rfl rfl (nb rfl))) ?_
        refine AL.go (OpR.plain rfl (r_bin rfl rfl (nb rfl) rfl (run_str_add _ _ (by first | omega | (simp only [List.length_map, Int.toNat_natCast] at *; omega) | (simp only [ByteArray.size_append, sz1, sz2, sz4, sz6, sz7, sz10, Int.toNat_natCast] at *; omega))))) ?_
        refine AL.go (OpR.plain rfl (r_assign rfl (nb rfl) (by rintro _ ⟨⟩))) ?_
        refine AL.nil ?_
        refine thenN ?_
        refine AW.seq ?_
        refine AW.region ?_
        refine AL.go (OpR.plain rfl (r_move rfl (nb rfl) (by rintro _ ⟨⟩))) ?_
        first | refine AL.go (OpR.plain rfl (r_fieldAddr fo_57_1 (by decide) rfl (nb rfl))) ?_ | refine AL.go (OpR.plain rfl (r_fieldAddrp fo_57_1 (by decide) rfl (nb rfl))) ?_
        first | refine AL.go (OpR.plain rfl (r_load ti_9 rfl rfl rfl (nb rfl))) ?_ | refine AL.go (OpR.plain rfl (r_loadp ti_9 rfl rfl (nb rfl))) ?_
        refine AL.go (OpR.plain rfl (r_bin rfl rfl (nb rfl) rfl (run_str_add _ _ (by first | omega | (simp only [List.length_map, Int.toNat_natCast] at *; omega) | (simp only [ByteArray.size_append, sz1, sz2, sz4, sz6, sz7, sz10, Int.toNat_natCast] at *; omega))))) ?_
        refine AL.go (OpR.plain rfl (r_assign rfl (nb rfl) (by rintro _ ⟨⟩))) ?_
        refine AL.nil ?_
        refine thenN ?_
        refine AW.seq ?_
        refine AW.seq ?_
        refine AW.region ?_
        first | refine AL.go (OpR.plain rfl (r_fieldAddr fo_57_2 (by decide) rfl (nb rfl))) ?_ | refine AL.go (OpR.plain rfl (r_fieldAddrp fo_57_2 (by decide) rfl (nb rfl))) ?_
        first | refine AL.go (OpR.plain rfl (r_load ti_9 rfl rfl rfl (nb rfl))) ?_ | refine AL.go (OpR.plain rfl (r_loadp ti_9 rfl rfl (nb rfl))) ?_
        refine AL.go (OpR.plain rfl (r_bin rfl rfl (nb rfl) rfl (run_str_neq _ _))) ?_
        refine AL.nil ?_
        refine thenN ?_
        refine AW.condb rfl (fun h4 => ?_) (fun h4 => ?_)
        · have h4n := h4; try simp only [dtt, dff, bqi, bqf, bni, bnf, nt1, nf1, nt0, nf0, ne_eq, ilt, ile, rows_length, Int.toNat_natCast, List.length_map] at h4n
          refine AW.region ?_
          refine AL.go (OpR.plain rfl (r_move rfl (nb rfl) (by rintro _ ⟨⟩))) ?_
          refine AL.go (OpR.plain rfl (r_bin rfl rfl (nb rfl) rfl (run_str_add _ _ (by first | omega | (simp only [List.length_map, Int.toNat_natCast] at *; omega) | (simp only [ByteArray.size_append, sz1, sz2, sz4, sz6, sz7, sz10, Int.toNat_natCast] at *; omega))))) ?_
          first | refine AL.go (OpR.plain rfl (r_fieldAddr fo_57_2 (by decide) rfl (nb rfl))) ?_ | refine AL.go (OpR.plain rfl (r_fieldAddrp fo_57_2 (by decide) rfl (nb rfl))) ?_
          first | refine AL.go (OpR.plain rfl (r_load ti_9 rfl rfl rfl (nb rfl))) ?_ | refine AL.go (OpR.plain rfl (r_loadp ti_9 rfl rfl (nb rfl))) ?_
          refine AL.go (OpR.plain rfl (r_bin rfl rfl (nb rfl) rfl (run_str_add _ _ (by first | omega | (simp only [List.length_map, Int.toNat_natCast] at *; omega) | (simp only [ByteArray.size_append, sz1, sz2, sz4, sz6, sz7, sz10, Int.toNat_natCast] at *; omega))))) ?_
          refine AL.go (OpR.plain rfl (r_assign rfl (nb rfl) (by rintro _ ⟨⟩))) ?_
          refine AL.nil ?_
          refine thenN ?_
          refine AW.seq ?_
          refine AW.region ?_
          refine AL.go (OpR.plain rfl (r_move rfl (nb rfl) (by rintro _ ⟨⟩))) ?_
          refine AL.go (OpR.plain rfl (r_bin rfl rfl (nb rfl) rfl (run_int_gtr _ _ _))) ?_
          refine AL.nil ?_
          refine thenN ?_
          refine AW.condb rfl (fun h5 => ?_) (fun h5 => ?_)
          · have h5n := h5; try simp only [dtt, dff, bqi, bqf, bni, bnf, nt1, nf1, nt0, nf0, ne_eq, ilt, ile, rows_length, Int.toNat_natCast, List.length_map] at h5n
            refine AW.region ?_
            refine AL.go (OpR.plain rfl (r_move rfl (nb rfl) (by rintro _ ⟨⟩))) ?_
            refine AL.go (OpR.plain rfl (r_bin rfl rfl (nb rfl) rfl (run_str_add _ _ (by first | omega | (simp only [List.length_map, Int.toNat_natCast] at *; omega) | (simp only [ByteArray.size_append, sz1, sz2, sz4, sz6, sz7, sz10, Int.toNat_natCast] at *; omega))))) ?_
            first | refine AL.go (OpR.plain rfl (r_fieldAddr fo_57_3 (by decide) rfl (nb rfl))) ?_ | refine AL.go (OpR.plain rfl (r_fieldAddrp fo_57_3 (by decide) rfl (nb rfl))) ?_
            first | refine AL.go (OpR.plain rfl (r_load ti_27 rfl rfl (by simp only [loaded, mpc, mpn, if_true, ler, tks, tkz, tkn, dps, dpz, cap, nap, apn, lnc, lnn, zad, Nat.reduceAdd, adz]; rfl) (nb rfl))) ?_ | refine AL.go (OpR.plain rfl (r_loadp ti_27 rfl (by simp only [loaded, mpc, mpn, if_true, ler, tks, tkz, tkn, dps, dpz, cap, nap, apn, lnc, lnn, zad, Nat.reduceAdd, adz]; rfl) (nb rfl))) ?_
            refine AL.go (OpR.plain rfl (r_callFun ((prs_all hF.1).2) en_13 rfl rfl rfl rfl (.cons (by first | exact A.le_refl _ | (rw [part_over (by omega)]; exact A.le_agg (.cons (C.le_refl _) (.cons (C.le_refl _) (.cons (C.le_refl _) (.cons (C.le_refl _) (.cons (C.le_refl _) (.cons (C.le_refl _) (.cons (C.le_refl _) (.cons (C.le_refl _) (.cons C.le_nil .nil))))))))))) .nil) rfl (nb rfl))) ?_
            refine AL.go (OpR.plain rfl (r_bin rfl rfl (nb rfl) rfl (run_str_add _ _ (by first | omega | (simp only [List.length_map, Int.toNat_natCast] at *; omega) | (simp only [ByteArray.size_append, sz1, sz2, sz4, sz6, sz7, sz10, Int.toNat_natCast] at *; omega))))) ?_
            refine AL.go (OpR.plain rfl (r_assign rfl (nb rfl) (by rintro _ ⟨⟩))) ?_
            refine AL.nil ?_
            refine inbN ?_
            refine thenN ?_
            refine AW.region ?_
            refine AL.go (OpR.plain rfl (r_move rfl (nb rfl) (by rintro _ ⟨⟩))) ?_
            refine AL.go (OpR.plain rfl (r_add rfl rfl (nb rfl) (by first | omega | (simp only [List.length_map, Int.toNat_natCast] at *; omega) | (simp only [ByteArray.size_append, sz1, sz2, sz4, sz6, sz7, sz10, Int.toNat_natCast] at *; omega)) (by first | omega | (simp only [List.length_map, Int.toNat_natCast] at *; omega) | (simp only [ByteArray.size_append, sz1, sz2, sz4, sz6, sz7, sz10, Int.toNat_natCast] at *; omega)))) ?_
            refine AL.go (OpR.plain rfl (r_assign rfl (nb rfl) (by rintro _ ⟨⟩))) ?_
            refine AL.nil ?_
            refine thenN ?_
            refine ⟨⟨i + 1, by omega⟩, by simp only; omega, weakens_id (.cons rfl (A.le_of_eq (by first | rfl | (simp [A.ren, C.ren, renOf, lk]; done) | (simp [A.ren, C.ren, renOf, lk]; omega) | omega)) (.cons rfl (A.le_of_eq (by first | rfl | (simp [A.ren, C.ren, renOf, lk]; done) | (simp [A.ren, C.ren, renOf, lk]; omega) | omega)) (.cons rfl (A.le_of_eq (by first | (exfalso; omega) | (rw [show headM q (i + 1) = headM q i ++ fromM (q.frm.getD i Fr.zero) i from by unfold headM; rw [fromsM]; simp only [bapp]]; unfold fromM; (try rw [joinW_else (by omega)]); (try simp only [A.ren, C.ren]); (first | rw [if_pos (show (q.frm.getD i Fr.zero).as_ = ⟨#[]⟩ by assumption)] | rw [if_neg (show ¬ (q.frm.getD i Fr.zero).as_ = ⟨#[]⟩ by assumption)]); (repeat (first | rw [if_pos (show 0 < i by omega)] | rw [if_neg (show ¬ 0 < i by omega)])); simp only [bapp, bnil, bnil0]; try rfl))) .nil))) (.cons rfl (Ob.le_refl _) .nil) rfl rfl rfl rfl⟩
          · have h5n := h5; try simp only [dtt, dff, bqi, bqf, bni, bnf, nt1, nf1, nt0, nf0, ne_eq, ilt, ile, rows_length, Int.toNat_natCast, List.length_map] at h5n
            refine AW.skip ?_
            refine inbN ?_
            refine thenN ?_
            refine AW.region ?_
            refine AL.go (OpR.plain rfl (r_move rfl (nb rfl) (by rintro _ ⟨⟩))) ?_
            refine AL.go (OpR.plain rfl (r_add rfl rfl (nb rfl) (by first | omega | (simp only [List.length_map, Int.toNat_natCast] at *; omega) | (simp only [ByteArray.size_append, sz1, sz2, sz4, sz6, sz7, sz10, Int.toNat_natCast] at *; omega)) (by first | omega | (simp only [List.length_map, Int.toNat_natCast] at *; omega) | (simp only [ByteArray.size_append, sz1, sz2, sz4, sz6, sz7, sz10, Int.toNat_natCast] at *; omega)))) ?_
            refine AL.go (OpR.plain rfl (r_assign rfl (nb rfl) (by rintro _ ⟨⟩))) ?_
            refine AL.nil ?_
            refine thenN ?_
            refine ⟨⟨i + 1, by omega⟩, by simp only; omega, weakens_id (.cons rfl (A.le_of_eq (by first | rfl | (simp [A.ren, C.ren, renOf, lk]; done) | (simp [A.ren, C.ren, renOf, lk]; omega) | omega)) (.cons rfl (A.le_of_eq (by first | rfl | (simp [A.ren, C.ren, renOf, lk]; done) | (simp [A.ren, C.ren, renOf, lk]; omega) | omega)) (.cons rfl (A.le_of_eq (by first | (exfalso; omega) | (rw [show headM q (i + 1) = headM q i ++ fromM (q.frm.getD i Fr.zero) i from by unfold headM; rw [fromsM]; simp only [bapp]]; unfold fromM; (try rw [joinW_else (by omega)]); (try simp only [A.ren, C.ren]); (first | rw [if_pos (show (q.frm.getD i Fr.zero).as_ = ⟨#[]⟩ by assumption)] | rw [if_neg (show ¬ (q.frm.getD i Fr.zero).as_ = ⟨#[]⟩ by assumption)]); (repeat (first | rw [if_pos (show 0 < i by omega)] | rw [if_neg (show ¬ 0 < i by omega)])); simp only [bapp, bnil, bnil0]; try rfl))) .nil))) (.cons rfl (Ob.le_refl _) .nil) rfl rfl rfl rfl⟩
        · have h4n := h4; try simp only [dtt, dff, bqi, bqf, bni, bnf, nt1, nf1, nt0, nf0, ne_eq, ilt, ile, rows_length, Int.toNat_natCast, List.length_map] at h4n
          refine AW.skip ?_
          refine thenN ?_
          refine AW.seq ?_
          refine AW.region ?_
          refine AL.go (OpR.plain rfl (r_move rfl (nb rfl) (by rintro _ ⟨⟩))) ?_
          refine AL.go (OpR.plain rfl (r_bin rfl rfl (nb rfl) rfl (run_int_gtr _ _ _))) ?_
          refine AL.nil ?_
          refine thenN ?_
          refine AW.condb rfl (fun h6 => ?_) (fun h6 => ?_)
          · have h6n := h6; try simp only [dtt, dff, bqi, bqf, bni, bnf, nt1, nf1, nt0, nf0, ne_eq, ilt, ile, rows_length, Int.toNat_natCast, List.length_map] at h6n
            refine AW.region ?_
            refine AL.go (OpR.plain rfl (r_move rfl (nb rfl) (by rintro _ ⟨⟩))) ?_
            refine AL.go (OpR.plain rfl (r_bin rfl rfl (nb rfl) rfl (run_str_add _ _ (by first | omega | (simp only [List.length_map, Int.toNat_natCast] at *; omega) | (simp only [ByteArray.size_append, sz1, sz2, sz4, sz6, sz7, sz10, Int.toNat_natCast] at *; omega))))) ?_
            first | refine AL.go (OpR.plain rfl (r_fieldAddr fo_57_3 (by decide) rfl (nb rfl))) ?_ | refine AL.go (OpR.plain rfl (r_fieldAddrp fo_57_3 (by decide) rfl (nb rfl))) ?_
            first | refine AL.go (OpR.plain rfl (r_load ti_27 rfl rfl (by simp only [loaded, mpc, mpn, if_true, ler, tks, tkz, tkn, dps, dpz, cap, nap, apn, lnc, lnn, zad, Nat.reduceAdd, adz]; rfl) (nb rfl))) ?_ | refine AL.go (OpR.plain rfl (r_loadp ti_27 rfl (by simp only [loaded, mpc, mpn, if_true, ler, tks, tkz, tkn, dps, dpz, cap, nap, apn, lnc, lnn, zad, Nat.reduceAdd, adz]; rfl) (nb rfl))) ?_
            refine AL.go (OpR.plain rfl (r_callFun ((prs_all hF.1).2) en_13 rfl rfl rfl rfl (.cons (by first | exact A.le_refl _ | (rw [part_over (by omega)]; exact A.le_agg (.cons (C.le_refl _) (.cons (C.le_refl _) (.cons (C.le_refl _) (.cons (C.le_refl _) (.cons (C.le_refl _) (.cons (C.le_refl _) (.cons (C.le_refl _) (.cons (C.le_refl _) (.cons C.le_nil .nil))))))))))) .nil) rfl (nb rfl))) ?_
            refine AL.go (OpR.plain rfl (r_bin rfl rfl (nb rfl) rfl (run_str_add _ _ (by first | omega | (simp only [List.length_map, Int.toNat_natCast] at *; omega) | (simp only [ByteArray.size_append, sz1, sz2, sz4, sz6, sz7, sz10, Int.toNat_natCast] at *; omega))))) ?_
            refine AL.go (OpR.plain rfl (r_assign rfl (nb rfl) (by rintro _ ⟨⟩))) ?_
            refine AL.nil ?_
            refine inbN ?_
            refine thenN ?_
            refine AW.region ?_
            refine AL.go (OpR.plain rfl (r_move rfl (nb rfl) (by rintro _ ⟨⟩))) ?_
            refine AL.go (OpR.plain rfl (r_add rfl rfl (nb rfl) (by first | omega | (simp only [List.length_map, Int.toNat_natCast] at *; omega) | (simp only [ByteArray.size_append, sz1, sz2, sz4, sz6, sz7, sz10, Int.toNat_natCast] at *; omega)) (by first | omega | (simp only [List.length_map, Int.toNat_natCast] at *; omega) | (simp only [ByteArray.size_append, sz1, sz2, sz4, sz6, sz7, sz10, Int.toNat_natCast] at *; omega)))) ?_
            refine AL.go (OpR.plain rfl (r_assign rfl (nb rfl) (by rintro _ ⟨⟩))) ?_
            refine AL.nil ?_
            refine thenN ?_
            refine ⟨⟨i + 1, by omega⟩, by simp only; omega, weakens_id (.cons rfl (A.le_of_eq (by first | rfl | (simp [A.ren, C.ren, renOf, lk]; done) | (simp [A.ren, C.ren, renOf, lk]; omega) | omega)) (.cons rfl (A.le_of_eq (by first | rfl | (simp [A.ren, C.ren, renOf, lk]; done) | (simp [A.ren, C.ren, renOf, lk]; omega) | omega)) (.cons rfl (A.le_of_eq (by first | (exfalso; omega) | (rw [show headM q (i + 1) = headM q i ++ fromM (q.frm.getD i Fr.zero) i from by unfold headM; rw [fromsM]; simp only [bapp]]; unfold fromM; (try rw [joinW_else (by omega)]); (try simp only [A.ren, C.ren]); (first | rw [if_pos (show (q.frm.getD i Fr.zero).as_ = ⟨#[]⟩ by assumption)] | rw [if_neg (show ¬ (q.frm.getD i Fr.zero).as_ = ⟨#[]⟩ by assumption)]); (repeat (first | rw [if_pos (show 0 < i by omega)] | rw [if_neg (show ¬ 0 < i by omega)])); simp only [bapp, bnil, bnil0]; try rfl))) .nil))) (.cons rfl (Ob.le_refl _) .nil) rfl rfl rfl rfl⟩
          · have h6n := h6; try simp only [dtt, dff, bqi, bqf, bni, bnf, nt1, nf1, nt0, nf0, ne_eq, ilt, ile, rows_length, Int.toNat_natCast, List.length_map] at h6n
            refine AW.skip ?_
            refine inbN ?_
            refine thenN ?_
            refine AW.region ?_
            refine AL.go (OpR.plain rfl (r_move rfl (nb rfl) (by rintro _ ⟨⟩))) ?_
            refine AL.go (OpR.plain rfl (r_add rfl rfl (nb rfl) (by first | omega | (simp only [List.length_map, Int.toNat_natCast] at *; omega) | (simp only [ByteArray.size_append, sz1, sz2, sz4, sz6, sz7, sz10, Int.toNat_natCast] at *; omega)) (by first | omega | (simp only [List.length_map, Int.toNat_natCast] at *; omega) | (simp only [ByteArray.size_append, sz1, sz2, sz4, sz6, sz7, sz10, Int.toNat_natCast] at *; omega)))) ?_
            refine AL.go (OpR.plain rfl (r_assign rfl (nb rfl) (by rintro _ ⟨⟩))) ?_
            refine AL.nil ?_
            refine thenN ?_
            refine ⟨⟨i + 1, by omega⟩, by simp only; omega, weakens_id (.cons rfl (A.le_of_eq (by first | rfl | (simp [A.ren, C.ren, renOf, lk]; done) | (simp [A.ren, C.ren, renOf, lk]; omega) | omega)) (.cons rfl (A.le_of_eq (by first | rfl | (simp [A.ren, C.ren, renOf, lk]; done) | (simp [A.ren, C.ren, renOf, lk]; omega) | omega)) (.cons rfl (A.le_of_eq (by first | (exfalso; omega) | (rw [show headM q (i + 1) = headM q i ++ fromM (q.frm.getD i Fr.zero) i from by unfold headM; rw [fromsM]; simp only [bapp]]; unfold fromM; (try rw [joinW_else (by omega)]); (try simp only [A.ren, C.ren]); (first | rw [if_pos (show (q.frm.getD i Fr.zero).as_ = ⟨#[]⟩ by assumption)] | rw [if_neg (show ¬ (q.frm.getD i Fr.zero).as_ = ⟨#[]⟩ by assumption)]); (repeat (first | rw [if_pos (show 0 < i by omega)] | rw [if_neg (show ¬ 0 < i by omega)])); simp only [bapp, bnil, bnil0]; try rfl))) .nil))) (.cons rfl (Ob.le_refl _) .nil) rfl rfl rfl rfl⟩
      · have h3n := h3; try simp only [dtt, dff, bqi, bqf, bni, bnf, nt1, nf1, nt0, nf0, ne_eq, ilt, ile, rows_length, Int.toNat_natCast, List.length_map] at h3n
        refine AW.seq ?_
        refine AW.region ?_
        refine AL.go (OpR.plain rfl (r_move rfl (nb rfl) (by rintro _ ⟨⟩))) ?_
        refine AL.go (OpR.plain rfl (r_bin rfl rfl (nb rfl) rfl (run_int_gtr _ _ _))) ?_
        refine AL.nil ?_
        refine thenN ?_
        refine AW.condb rfl (fun h7 => ?_) (fun h7 => ?_)
        · have h7n := h7; try simp only [dtt, dff, bqi, bqf, bni, bnf, nt1, nf1, nt0, nf0, ne_eq, ilt, ile, rows_length, Int.toNat_natCast, List.length_map] at h7n
          refine AW.region ?_
          refine AL.go (OpR.plain rfl (r_move rfl (nb rfl) (by rintro _ ⟨⟩))) ?_
          refine AL.go (OpR.plain rfl (r_bin rfl rfl (nb rfl) rfl (run_str_add _ _ (by first | omega | (simp only [List.length_map, Int.toNat_natCast] at *; omega) | (simp only [ByteArray.size_append, sz1, sz2, sz4, sz6, sz7, sz10, Int.toNat_natCast] at *; omega))))) ?_
          refine AL.go (OpR.plain rfl (r_assign rfl (nb rfl) (by rintro _ ⟨⟩))) ?_
          refine AL.nil ?_
          refine thenN ?_
          refine AW.seq ?_
          refine AW.region ?_
          refine AL.go (OpR.plain rfl (r_move rfl (nb rfl) (by rintro _ ⟨⟩))) ?_
          first | refine AL.go (OpR.plain rfl (r_fieldAddr fo_57_1 (by decide) rfl (nb rfl))) ?_ | refine AL.go (OpR.plain rfl (r_fieldAddrp fo_57_1 (by decide) rfl (nb rfl))) ?_
          first | refine AL.go (OpR.plain rfl (r_load ti_9 rfl rfl rfl (nb rfl))) ?_ | refine AL.go (OpR.plain rfl (r_loadp ti_9 rfl rfl (nb rfl))) ?_
          refine AL.go (OpR.plain rfl (r_bin rfl rfl (nb rfl) rfl (run_str_add _ _ (by first | omega | (simp only [List.length_map, Int.toNat_natCast] at *; omega) | (simp only [ByteArray.size_append, sz1, sz2, sz4, sz6, sz7, sz10, Int.toNat_natCast] at *; omega))))) ?_
          refine AL.go (OpR.plain rfl (r_assign rfl (nb rfl) (by rintro _ ⟨⟩))) ?_
          refine AL.nil ?_
          refine thenN ?_
          refine AW.seq ?_
          refine AW.seq ?_
          refine AW.region ?_
          first | refine AL.go (OpR.plain rfl (r_fieldAddr fo_57_2 (by decide) rfl (nb rfl))) ?_ | refine AL.go (OpR.plain rfl (r_fieldAddrp fo_57_2 (by decide) rfl (nb rfl))) ?_
          first | refine AL.go (OpR.plain rfl (r_load ti_9 rfl rfl rfl (nb rfl))) ?_ | refine AL.go (OpR.plain rfl (r_loadp ti_9 rfl rfl (nb rfl))) ?_
          refine AL.go (OpR.plain rfl (r_bin rfl rfl (nb rfl) rfl (run_str_neq _ _))) ?_
          refine AL.nil ?_
          refine thenN ?_
          refine AW.condb rfl (fun h8 => ?_) (fun h8 => ?_)
          · have h8n := h8; try simp only [dtt, dff, bqi, bqf, bni, bnf, nt1, nf1, nt0, nf0, ne_eq, ilt, ile, rows_length, Int.toNat_natCast, List.length_map] at h8n
            refine AW.region ?_
            refine AL.go (OpR.plain rfl (r_move rfl (nb rfl) (by rintro _ ⟨⟩))) ?_
            refine AL.go (OpR.plain rfl (r_bin rfl rfl (nb rfl) rfl (run_str_add _ _ (by first | omega | (simp only [List.length_map, Int.toNat_natCast] at *; omega) | (simp only [ByteArray.size_append, sz1, sz2, sz4, sz6, sz7, sz10, Int.toNat_natCast] at *; omega))))) ?_
            first | refine AL.go (OpR.plain rfl (r_fieldAddr fo_57_2 (by decide) rfl (nb rfl))) ?_ | refine AL.go (OpR.plain rfl (r_fieldAddrp fo_57_2 (by decide) rfl (nb rfl))) ?_
            first | refine AL.go (OpR.plain rfl (r_load ti_9 rfl rfl rfl (nb rfl))) ?_ | refine AL.go (OpR.plain rfl (r_loadp ti_9 rfl rfl (nb rfl))) ?_
            refine AL.go (OpR.plain rfl (r_bin rfl rfl (nb rfl) rfl (run_str_add _ _ (by first | omega | (simp only [List.length_map, Int.toNat_natCast] at *; omega) | (simp only [ByteArray.size_append, sz1, sz2, sz4, sz6, sz7, sz10, Int.toNat_natCast] at *; omega))))) ?_
            refine AL.go (OpR.plain rfl (r_assign rfl (nb rfl) (by rintro _ ⟨⟩))) ?_
            refine AL.nil ?_
            refine thenN ?_
            refine AW.seq ?_
            refine AW.region ?_
            refine AL.go (OpR.plain rfl (r_move rfl (nb rfl) (by rintro _ ⟨⟩))) ?_
            refine AL.go (OpR.plain rfl (r_bin rfl rfl (nb rfl) rfl (run_int_gtr _ _ _))) ?_
            refine AL.nil ?_
            refine thenN ?_
            refine AW.condb rfl (fun h9 => ?_) (fun h9 => ?_)
            · have h9n := h9; try simp only [dtt, dff, bqi, bqf, bni, bnf, nt1, nf1, nt0, nf0, ne_eq, ilt, ile, rows_length, Int.toNat_natCast, List.length_map] at h9n
              refine AW.region ?_
              refine AL.go (OpR.plain rfl (r_move rfl (nb rfl) (by rintro _ ⟨⟩))) ?_
              refine AL.go (OpR.plain rfl (r_bin rfl rfl (nb rfl) rfl (run_str_add _ _ (by first | omega | (simp only [List.length_map, Int.toNat_natCast] at *; omega) | (simp only [ByteArray.size_append, sz1, sz2, sz4, sz6, sz7, sz10, Int.toNat_natCast] at *; omega))))) ?_
              first | refine AL.go (OpR.plain rfl (r_fieldAddr fo_57_3 (by decide) rfl (nb rfl))) ?_ | refine AL.go (OpR.plain rfl (r_fieldAddrp fo_57_3 (by decide) rfl (nb rfl))) ?_
              first | refine AL.go (OpR.plain rfl (r_load ti_27 rfl rfl (by simp only [loaded, mpc, mpn, if_true, ler, tks, tkz, tkn, dps, dpz, cap, nap, apn, lnc, lnn, zad, Nat.reduceAdd, adz]; rfl) (nb rfl))) ?_ | refine AL.go (OpR.plain rfl (r_loadp ti_27 rfl (by simp only [loaded, mpc, mpn, if_true, ler, tks, tkz, tkn, dps, dpz, cap, nap, apn, lnc, lnn, zad, Nat.reduceAdd, adz]; rfl) (nb rfl))) ?_
              refine AL.go (OpR.plain rfl (r_callFun ((prs_all hF.1).2) en_13 rfl rfl rfl rfl (.cons (by first | exact A.le_refl _ | (rw [part_over (by omega)]; exact A.le_agg (.cons (C.le_refl _) (.cons (C.le_refl _) (.cons (C.le_refl _) (.cons (C.le_refl _) (.cons (C.le_refl _) (.cons (C.le_refl _) (.cons (C.le_refl _) (.cons (C.le_refl _) (.cons C.le_nil .nil))))))))))) .nil) rfl (nb rfl))) ?_
              refine AL.go (OpR.plain rfl (r_bin rfl rfl (nb rfl) rfl (run_str_add _ _ (by first | omega | (simp only [List.length_map, Int.toNat_natCast] at *; omega) | (simp only [ByteArray.size_append, sz1, sz2, sz4, sz6, sz7, sz10, Int.toNat_natCast] at *; omega))))) ?_
              refine AL.go (OpR.plain rfl (r_assign rfl (nb rfl) (by rintro _ ⟨⟩))) ?_
              refine AL.nil ?_
              refine inbN ?_
              refine thenN ?_
              refine AW.region ?_
              refine AL.go (OpR.plain rfl (r_move rfl (nb rfl) (by rintro _ ⟨⟩))) ?_
              refine AL.go (OpR.plain rfl (r_add rfl rfl (nb rfl) (by first | omega | (simp only [List.length_map, Int.toNat_natCast] at *; omega) | (simp only [ByteArray.size_append, sz1, sz2, sz4, sz6, sz7, sz10, Int.toNat_natCast] at *; omega)) (by first | omega | (simp only [List.length_map, Int.toNat_natCast] at *; omega) | (simp only [ByteArray.size_append, sz1, sz2, sz4, sz6, sz7, sz10, Int.toNat_natCast] at *; omega)))) ?_
              refine AL.go (OpR.plain rfl (r_assign rfl (nb rfl) (by rintro _ ⟨⟩))) ?_
              refine AL.nil ?_
              refine thenN ?_
              refine ⟨⟨i + 1, by omega⟩, by simp only; omega, weakens_id (.cons rfl (A.le_of_eq (by first | rfl | (simp [A.ren, C.ren, renOf, lk]; done) | (simp [A.ren, C.ren, renOf, lk]; omega) | omega)) (.cons rfl (A.le_of_eq (by first | rfl | (simp [A.ren, C.ren, renOf, lk]; done) | (simp [A.ren, C.ren, renOf, lk]; omega) | omega)) (.cons rfl (A.le_of_eq (by first | (exfalso; omega) | (rw [show headM q (i + 1) = headM q i ++ fromM (q.frm.getD i Fr.zero) i from by unfold headM; rw [fromsM]; simp only [bapp]]; unfold fromM; (try rw [joinW_else (by omega)]); (try simp only [A.ren, C.ren]); (first | rw [if_pos (show (q.frm.getD i Fr.zero).as_ = ⟨#[]⟩ by assumption)] | rw [if_neg (show ¬ (q.frm.getD i Fr.zero).as_ = ⟨#[]⟩ by assumption)]); (repeat (first | rw [if_pos (show 0 < i by omega)] | rw [if_neg (show ¬ 0 < i by omega)])); simp only [bapp, bnil, bnil0]; try rfl))) .nil))) (.cons rfl (Ob.le_refl _) .nil) rfl rfl rfl rfl⟩
            · have h9n := h9; try simp only [dtt, dff, bqi, bqf, bni, bnf, nt1, nf1, nt0, nf0, ne_eq, ilt, ile, rows_length, Int.toNat_natCast, List.length_map] at h9n
              refine AW.skip ?_
              refine inbN ?_
              refine thenN ?_
              refine AW.region ?_
              refine AL.go (OpR.plain rfl (r_move rfl (nb rfl) (by rintro _ ⟨⟩))) ?_
              refine AL.go (OpR.plain rfl (r_add rfl rfl (nb rfl) (by first | omega | (simp only [List.length_map, Int.toNat_natCast] at *; omega) | (simp only [ByteArray.size_append, sz1, sz2, sz4, sz6, sz7, sz10, Int.toNat_natCast] at *; omega)) (by first | omega | (simp only [List.length_map, Int.toNat_natCast] at *; omega) | (simp only [ByteArray.size_append, sz1, sz2, sz4, sz6, sz7, sz10, Int.toNat_natCast] at *; omega)))) ?_
              refine AL.go (OpR.plain rfl (r_assign rfl (nb rfl) (by rintro _ ⟨⟩))) ?_
              refine AL.nil ?_
              refine thenN ?_
              refine ⟨⟨i + 1, by omega⟩, by simp only; omega, weakens_id (.cons rfl (A.le_of_eq (by first | rfl | (simp [A.ren, C.ren, renOf, lk]; done) | (simp [A.ren, C.ren, renOf, lk]; omega) | omega)) (.cons rfl (A.le_of_eq (by first | rfl | (simp [A.ren, C.ren, renOf, lk]; done) | (simp [A.ren, C.ren, renOf, lk]; omega) | omega)) (.cons rfl (A.le_of_eq (by first | (exfalso; omega) | (rw [show headM q (i + 1) = headM q i ++ fromM (q.frm.getD i Fr.zero) i from by unfold headM; rw [fromsM]; simp only [bapp]]; unfold fromM; (try rw [joinW_else (by omega)]); (try simp only [A.ren, C.ren]); (first | rw [if_pos (show (q.frm.getD i Fr.zero).as_ = ⟨#[]⟩ by assumption)] | rw [if_neg (show ¬ (q.frm.getD i Fr.zero).as_ = ⟨#[]⟩ by assumption)]); (repeat (first | rw [if_pos (show 0 < i by omega)] | rw [if_neg (show ¬ 0 < i by omega)])); simp only [bapp, bnil, bnil0]; try rfl))) .nil))) (.cons rfl (Ob.le_refl _) .nil) rfl rfl rfl rfl⟩
          · have h8n := h8; try simp only [dtt, dff, bqi, bqf, bni, bnf, nt1, nf1, nt0, nf0, ne_eq, ilt, ile, rows_length, Int.toNat_natCast, List.length_map] at h8n
            refine AW.skip ?_
            refine thenN ?_
            refine AW.seq ?_
            refine AW.region ?_
            refine AL.go (OpR.plain rfl (r_move rfl (nb rfl) (by rintro _ ⟨⟩))) ?_
            refine AL.go (OpR.plain rfl (r_bin rfl rfl (nb rfl) rfl (run_int_gtr _ _ _))) ?_
            refine AL.nil ?_
            refine thenN ?_
            refine AW.condb rfl (fun h10 => ?_) (fun h10 => ?_)
            · have h10n := h10; try simp only [dtt, dff, bqi, bqf, bni, bnf, nt1, nf1, nt0, nf0, ne_eq, ilt, ile, rows_length, Int.toNat_natCast, List.length_map] at h10n
              refine AW.region ?_
              refine AL.go (OpR.plain rfl (r_move rfl (nb rfl) (by rintro _ ⟨⟩))) ?_
              refine AL.go (OpR.plain rfl (r_bin rfl rfl (nb rfl) rfl (run_str_add _ _ (by first | omega | (simp only [List.length_map, Int.toNat_natCast] at *; omega) | (simp only [ByteArray.size_append, sz1, sz2, sz4, sz6, sz7, sz10, Int.toNat_natCast] at *; omega))))) ?_
              first | refine AL.go (OpR.plain rfl (r_fieldAddr fo_57_3 (by decide) rfl (nb rfl))) ?_ | refine AL.go (OpR.plain rfl (r_fieldAddrp fo_57_3 (by decide) rfl (nb rfl))) ?_
              first | refine AL.go (OpR.plain rfl (r_load ti_27 rfl rfl (by simp only [loaded, mpc, mpn, if_true, ler, tks, tkz, tkn, dps, dpz, cap, nap, apn, lnc, lnn, zad, Nat.reduceAdd, adz]; rfl) (nb rfl))) ?_ | refine AL.go (OpR.plain rfl (r_loadp ti_27 rfl (by simp only [loaded, mpc, mpn, if_true, ler, tks, tkz, tkn, dps, dpz, cap, nap, apn, lnc, lnn, zad, Nat.reduceAdd, adz]; rfl) (nb rfl))) ?_
              refine AL.go (OpR.plain rfl (r_callFun ((prs_all hF.1).2) en_13 rfl rfl rfl rfl (.cons (by first | exact A.le_refl _ | (rw [part_over (by omega)]; exact A.le_agg (.cons (C.le_refl _) (.cons (C.le_refl _) (.cons (C.le_refl _) (.cons (C.le_refl _) (.cons (C.le_refl _) (.cons (C.le_refl _) (.cons (C.le_refl _) (.cons (C.le_refl _) (.cons C.le_nil .nil))))))))))) .nil) rfl (nb rfl))) ?_
              refine AL.go (OpR.plain rfl (r_bin rfl rfl (nb rfl) rfl (run_str_add _ _ (by first | omega | (simp only [List.length_map, Int.toNat_natCast] at *; omega) | (simp only [ByteArray.size_append, sz1, sz2, sz4, sz6, sz7, sz10, Int.toNat_natCast] at *; omega))))) ?_
              refine AL.go (OpR.plain rfl (r_assign rfl (nb rfl) (by rintro _ ⟨⟩))) ?_
              refine AL.nil ?_
              refine inbN ?_
              refine thenN ?_
              refine AW.region ?_
              refine AL.go (OpR.plain rfl (r_move rfl (nb rfl) (by rintro _ ⟨⟩))) ?_
              refine AL.go (OpR.plain rfl (r_add rfl rfl (nb rfl) (by first | omega | (simp only [List.length_map, Int.toNat_natCast] at *; omega) | (simp only [ByteArray.size_append, sz1, sz2, sz4, sz6, sz7, sz10, Int.toNat_natCast] at *; omega)) (by first | omega | (simp only [List.length_map, Int.toNat_natCast] at *; omega) | (simp only [ByteArray.size_append, sz1, sz2, sz4, sz6, sz7, sz10, Int.toNat_natCast] at *; omega)))) ?_
              refine AL.go (OpR.plain rfl (r_assign rfl (nb rfl) (by rintro _ ⟨⟩))) ?_
              refine AL.nil ?_
              refine thenN ?_
              refine ⟨⟨i + 1, by omega⟩, by simp only; omega, weakens_id (.cons rfl (A.le_of_eq (by first | rfl | (simp [A.ren, C.ren, renOf, lk]; done) | (simp [A.ren, C.ren, renOf, lk]; omega) | omega)) (.cons rfl (A.le_of_eq (by first | rfl | (simp [A.ren, C.ren, renOf, lk]; done) | (simp [A.ren, C.ren, renOf, lk]; omega) | omega)) (.cons rfl (A.le_of_eq (by first | (exfalso; omega) | (rw [show headM q (i + 1) = headM q i ++ fromM (q.frm.getD i Fr.zero) i from by unfold headM; rw [fromsM]; simp only [bapp]]; unfold fromM; (try rw [joinW_else (by omega)]); (try simp only [A.ren, C.ren]); (first | rw [if_pos (show (q.frm.getD i Fr.zero).as_ = ⟨#[]⟩ by assumption)] | rw [if_neg (show ¬ (q.frm.getD i Fr.zero).as_ = ⟨#[]⟩ by assumption)]); (repeat (first | rw [if_pos (show 0 < i by omega)] | rw [if_neg (show ¬ 0 < i by omega)])); simp only [bapp, bnil, bnil0]; try rfl))) .nil))) (.cons rfl (Ob.le_refl _) .nil) rfl rfl rfl rfl⟩
            · have h10n := h10; try simp only [dtt, dff, bqi, bqf, bni, bnf, nt1, nf1, nt0, nf0, ne_eq, ilt, ile, rows_length, Int.toNat_natCast, List.length_map] at h10n
              refine AW.skip ?_
              refine inbN ?_
              refine thenN ?_
              refine AW.region ?_
              refine AL.go (OpR.plain rfl (r_move rfl (nb rfl) (by rintro _ ⟨⟩))) ?_
              refine AL.go (OpR.plain rfl (r_add rfl rfl (nb rfl) (by first | omega | (simp only [List.length_map, Int.toNat_natCast] at *; omega) | (simp only [ByteArray.size_append, sz1, sz2, sz4, sz6, sz7, sz10, Int.toNat_natCast] at *; omega)) (by first | omega | (simp only [List.length_map, Int.toNat_natCast] at *; omega) | (simp only [ByteArray.size_append, sz1, sz2, sz4, sz6, sz7, sz10, Int.toNat_natCast] at *; omega)))) ?_
              refine AL.go (OpR.plain rfl (r_assign rfl (nb rfl) (by rintro _ ⟨⟩))) ?_
              refine AL.nil ?_
              refine thenN ?_
              refine ⟨⟨i + 1, by omega⟩, by simp only; omega, weakens_id (.cons rfl (A.le_of_eq (by first | rfl | (simp [A.ren, C.ren, renOf, lk]; done) | (simp [A.ren, C.ren, renOf, lk]; omega) | omega)) (.cons rfl (A.le_of_eq (by first | rfl | (simp [A.ren, C.ren, renOf, lk]; done) | (simp [A.ren, C.ren, renOf, lk]; omega) | omega)) (.cons rfl (A.le_of_eq (by first | (exfalso; omega) | (rw [show headM q (i + 1) = headM q i ++ fromM (q.frm.getD i Fr.zero) i from by unfold headM; rw [fromsM]; simp only [bapp]]; unfold fromM; (try rw [joinW_else (by omega)]); (try simp only [A.ren, C.ren]); (first | rw [if_pos (show (q.frm.getD i Fr.zero).as_ = ⟨#[]⟩ by assumption)] | rw [if_neg (show ¬ (q.frm.getD i Fr.zero).as_ = ⟨#[]⟩ by assumption)]); (repeat (first | rw [if_pos (show 0 < i by omega)] | rw [if_neg (show ¬ 0 < i by omega)])); simp only [bapp, bnil, bnil0]; try rfl))) .nil))) (.cons rfl (Ob.le_refl _) .nil) rfl rfl rfl rfl⟩
        · have h7n := h7; try simp only [dtt, dff, bqi, bqf, bni, bnf, nt1, nf1, nt0, nf0, ne_eq, ilt, ile, rows_length, Int.toNat_natCast, List.length_map] at h7n
          refine AW.skip ?_
          refine thenN ?_
          refine AW.seq ?_
          refine AW.region ?_
          refine AL.go (OpR.plain rfl (r_move rfl (nb rfl) (by rintro _ ⟨⟩))) ?_
          first | refine AL.go (OpR.plain rfl (r_fieldAddr fo_57_1 (by decide) rfl (nb rfl))) ?_ | refine AL.go (OpR.plain rfl (r_fieldAddrp fo_57_1 (by decide) rfl (nb rfl))) ?_
          first | refine AL.go (OpR.plain rfl (r_load ti_9 rfl rfl rfl (nb rfl))) ?_ | refine AL.go (OpR.plain rfl (r_loadp ti_9 rfl rfl (nb rfl))) ?_
          refine AL.go (OpR.plain rfl (r_bin rfl rfl (nb rfl) rfl (run_str_add _ _ (by first | omega | (simp only [List.length_map, Int.toNat_natCast] at *; omega) | (simp only [ByteArray.size_append, sz1, sz2, sz4, sz6, sz7, sz10, Int.toNat_natCast] at *; omega))))) ?_
          refine AL.go (OpR.plain rfl (r_assign rfl (nb rfl) (by rintro _ ⟨⟩))) ?_
          refine AL.nil ?_
          refine thenN ?_
          refine AW.seq ?_
          refine AW.seq ?_
          refine AW.region ?_
          first | refine AL.go (OpR.plain rfl (r_fieldAddr fo_57_2 (by decide) rfl (nb rfl))) ?_ | refine AL.go (OpR.plain rfl (r_fieldAddrp fo_57_2 (by decide) rfl (nb rfl))) ?_
          first | refine AL.go (OpR.plain rfl (r_load ti_9 rfl rfl rfl (nb rfl))) ?_ | refine AL.go (OpR.plain rfl (r_loadp ti_9 rfl rfl (nb rfl))) ?_
          refine AL.go (OpR.plain rfl (r_bin rfl rfl (nb rfl) rfl (run_str_neq _ _))) ?_
          refine AL.nil ?_
          refine thenN ?_
          refine AW.condb rfl (fun h11 => ?_) (fun h11 => ?_)
          · have h11n := h11; try simp only [dtt, dff, bqi, bqf, bni, bnf, nt1, nf1, nt0, nf0, ne_eq, ilt, ile, rows_length, Int.toNat_natCast, List.length_map] at h11n
            refine AW.region ?_
            refine AL.go (OpR.plain rfl (r_move rfl (nb rfl) (by rintro _ ⟨⟩))) ?_
            refine AL.go (OpR.plain rfl (r_bin rfl rfl (nb rfl) rfl (run_str_add _ _ (by first | omega | (simp only [List.length_map, Int.toNat_natCast] at *; omega) | (simp only [ByteArray.size_append, sz1, sz2, sz4, sz6, sz7, sz10, Int.toNat_natCast] at *; omega))))) ?_
            first | refine AL.go (OpR.plain rfl (r_fieldAddr fo_57_2 (by decide) rfl (nb rfl))) ?_ | refine AL.go (OpR.plain rfl (r_fieldAddrp fo_57_2 (by decide) rfl (nb rfl))) ?_
            first | refine AL.go (OpR.plain rfl (r_load ti_9 rfl rfl rfl (nb rfl))) ?_ | refine AL.go (OpR.plain rfl (r_loadp ti_9 rfl rfl (nb rfl))) ?_
            refine AL.go (OpR.plain rfl (r_bin rfl rfl (nb rfl) rfl (run_str_add _ _ (by first | omega | (simp only [List.length_map, Int.toNat_natCast] at *; omega) | (simp only [ByteArray.size_append, sz1, sz2, sz4, sz6, sz7, sz10, Int.toNat_natCast] at *; omega))))) ?_
            refine AL.go (OpR.plain rfl (r_assign rfl (nb rfl) (by rintro _ ⟨⟩))) ?_
            refine AL.nil ?_
            refine thenN ?_
            refine AW.seq ?_
            refine AW.region ?_
            refine AL.go (OpR.plain rfl (r_move rfl (nb rfl) (by rintro _ ⟨⟩))) ?_
            refine AL.go (OpR.plain rfl (r_bin rfl rfl (nb rfl) rfl (run_int_gtr _ _ _))) ?_
            refine AL.nil ?_
            refine thenN ?_
            refine AW.condb rfl (fun h12 => ?_) (fun h12 => ?_)
            · have h12n := h12; try simp only [dtt, dff, bqi, bqf, bni, bnf, nt1, nf1, nt0, nf0, ne_eq, ilt, ile, rows_length, Int.toNat_natCast, List.length_map] at h12n
              refine AW.region ?_
              refine AL.go (OpR.plain rfl (r_move rfl (nb rfl) (by rintro _ ⟨⟩))) ?_
              refine AL.go (OpR.plain rfl (r_bin rfl rfl (nb rfl) rfl (run_str_add _ _ (by first | omega | (simp only [List.length_map, Int.toNat_natCast] at *; omega) | (simp only [ByteArray.size_append, sz1, sz2, sz4, sz6, sz7, sz10, Int.toNat_natCast] at *; omega))))) ?_
              first | refine AL.go (OpR.plain rfl (r_fieldAddr fo_57_3 (by decide) rfl (nb rfl))) ?_ | refine AL.go (OpR.plain rfl (r_fieldAddrp fo_57_3 (by decide) rfl (nb rfl))) ?_
              first | refine AL.go (OpR.plain rfl (r_load ti_27 rfl rfl (by simp only [loaded, mpc, mpn, if_true, ler, tks, tkz, tkn, dps, dpz, cap, nap, apn, lnc, lnn, zad, Nat.reduceAdd, adz]; rfl) (nb rfl))) ?_ | refine AL.go (OpR.plain rfl (r_loadp ti_27 rfl (by simp only [loaded, mpc, mpn, if_true, ler, tks, tkz, tkn, dps, dpz, cap, nap, apn, lnc, lnn, zad, Nat.reduceAdd, adz]; rfl) (nb rfl))) ?_
              refine AL.go (OpR.plain rfl (r_callFun ((prs_all hF.1).2) en_13 rfl rfl rfl rfl (.cons (by first | exact A.le_refl _ | (rw [part_over (by omega)]; exact A.le_agg (.cons (C.le_refl _) (.cons (C.le_refl _) (.cons (C.le_refl _) (.cons (C.le_refl _) (.cons (C.le_refl _) (.cons (C.le_refl _) (.cons (C.le_refl _) (.cons (C.le_refl _) (.cons C.le_nil .nil))))))))))) .nil) rfl (nb rfl))) ?_
              refine AL.go (OpR.plain rfl (r_bin rfl rfl (nb rfl) rfl (run_str_add _ _ (by first | omega | (simp only [List.length_map, Int.toNat_natCast] at *; omega) | (simp only [ByteArray.size_append, sz1, sz2, sz4, sz6, sz7, sz10, Int.toNat_natCast] at *; omega))))) ?_
              refine AL.go (OpR.plain rfl (r_assign rfl (nb rfl) (by rintro _ ⟨⟩))) ?_
              refine AL.nil ?_
              refine inbN ?_
              refine thenN ?_
              refine AW.region ?_
              refine AL.go (OpR.plain rfl (r_move rfl (nb rfl) (by rintro _ ⟨⟩))) ?_
              refine AL.go (OpR.plain rfl (r_add rfl rfl (nb rfl) (by first | omega | (simp only [List.length_map, Int.toNat_natCast] at *; omega) | (simp only [ByteArray.size_append, sz1, sz2, sz4, sz6, sz7, sz10, Int.toNat_natCast] at *; omega)) (by first | omega | (simp only [List.length_map, Int.toNat_natCast] at *; omega) | (simp only [ByteArray.size_append, sz1, sz2, sz4, sz6, sz7, sz10, Int.toNat_natCast] at *; omega)))) ?_
              refine AL.go (OpR.plain rfl (r_assign rfl (nb rfl) (by rintro _ ⟨⟩))) ?_
              refine AL.nil ?_
              refine thenN ?_
              refine ⟨⟨i + 1, by omega⟩, by simp only; omega, weakens_id (.cons rfl (A.le_of_eq (by first | rfl | (simp [A.ren, C.ren, renOf, lk]; done) | (simp [A.ren, C.ren, renOf, lk]; omega) | omega)) (.cons rfl (A.le_of_eq (by first | rfl | (simp [A.ren, C.ren, renOf, lk]; done) | (simp [A.ren, C.ren, renOf, lk]; omega) | omega)) (.cons rfl (A.le_of_eq (by first | (exfalso; omega) | (rw [show headM q (i + 1) = headM q i ++ fromM (q.frm.getD i Fr.zero) i from by unfold headM; rw [fromsM]; simp only [bapp]]; unfold fromM; (try rw [joinW_else (by omega)]); (try simp only [A.ren, C.ren]); (first | rw [if_pos (show (q.frm.getD i Fr.zero).as_ = ⟨#[]⟩ by assumption)] | rw [if_neg (show ¬ (q.frm.getD i Fr.zero).as_ = ⟨#[]⟩ by assumption)]); (repeat (first | rw [if_pos (show 0 < i by omega)] | rw [if_neg (show ¬ 0 < i by omega)])); simp only [bapp, bnil, bnil0]; try rfl))) .nil))) (.cons rfl (Ob.le_refl _) .nil) rfl rfl rfl rfl⟩
            · have h12n := h12; try simp only [dtt, dff, bqi, bqf, bni, bnf, nt1, nf1, nt0, nf0, ne_eq, ilt, ile, rows_length, Int.toNat_natCast, List.length_map] at h12n
              refine AW.skip ?_
              refine inbN ?_
              refine thenN ?_
              refine AW.region ?_
              refine AL.go (OpR.plain rfl (r_move rfl (nb rfl) (by rintro _ ⟨⟩))) ?_
              refine AL.go (OpR.plain rfl (r_add rfl rfl (nb rfl) (by first | omega | (simp only [List.length_map, Int.toNat_natCast] at *; omega) | (simp only [ByteArray.size_append, sz1, sz2, sz4, sz6, sz7, sz10, Int.toNat_natCast] at *; omega)) (by first | omega | (simp only [List.length_map, Int.toNat_natCast] at *; omega) | (simp only [ByteArray.size_append, sz1, sz2, sz4, sz6, sz7, sz10, Int.toNat_natCast] at *; omega)))) ?_
              refine AL.go (OpR.plain rfl (r_assign rfl (nb rfl) (by rintro _ ⟨⟩))) ?_
              refine AL.nil ?_
              refine thenN ?_
              refine ⟨⟨i + 1, by omega⟩, by simp only; omega, weakens_id (.cons rfl (A.le_of_eq (by first | rfl | (simp [A.ren, C.ren, renOf, lk]; done) | (simp [A.ren, C.ren, renOf, lk]; omega) | omega)) (.cons rfl (A.le_of_eq (by first | rfl | (simp [A.ren, C.ren, renOf, lk]; done) | (simp [A.ren, C.ren, renOf, lk]; omega) | omega)) (.cons rfl (A.le_of_eq (by first | (exfalso; omega) | (rw [show headM q (i + 1) = headM q i ++ fromM (q.frm.getD i Fr.zero) i from by unfold headM; rw [fromsM]; simp only [bapp]]; unfold fromM; (try rw [joinW_else (by omega)]); (try simp only [A.ren, C.ren]); (first | rw [if_pos (show (q.frm.getD i Fr.zero).as_ = ⟨#[]⟩ by assumption)] | rw [if_neg (show ¬ (q.frm.getD i Fr.zero).as_ = ⟨#[]⟩ by assumption)]); (repeat (first | rw [if_pos (show 0 < i by omega)] | rw [if_neg (show ¬ 0 < i by omega)])); simp only [bapp, bnil, bnil0]; try rfl))) .nil))) (.cons rfl (Ob.le_refl _) .nil) rfl rfl rfl rfl⟩
          · have h11n := h11; try simp only [dtt, dff, bqi, bqf, bni, bnf, nt1, nf1, nt0, nf0, ne_eq, ilt, ile, rows_length, Int.toNat_natCast, List.length_map] at h11n
            refine AW.skip ?_
            refine thenN ?_
            refine AW.seq ?_
            refine AW.region ?_
            refine AL.go (OpR.plain rfl (r_move rfl (nb rfl) (by rintro _ ⟨⟩))) ?_
            refine AL.go (OpR.plain rfl (r_bin rfl rfl (nb rfl) rfl (run_int_gtr _ _ _))) ?_
            refine AL.nil ?_
            refine thenN ?_
            refine AW.condb rfl (fun h13 => ?_) (fun h13 => ?_)
            · have h13n := h13; try simp only [dtt, dff, bqi, bqf, bni, bnf, nt1, nf1, nt0, nf0, ne_eq, ilt, ile, rows_length, Int.toNat_natCast, List.length_map] at h13n
              refine AW.region ?_
              refine AL.go (OpR.plain rfl (r_move rfl (nb rfl) (by rintro _ ⟨⟩))) ?_
              refine AL.go (OpR.plain rfl (r_bin rfl rfl (nb rfl) rfl (run_str_add _ _ (by first | omega | (simp only [List.length_map, Int.toNat_natCast] at *; omega) | (simp only [ByteArray.size_append, sz1, sz2, sz4, sz6, sz7, sz10, Int.toNat_natCast] at *; omega))))) ?_
              first | refine AL.go (OpR.plain rfl (r_fieldAddr fo_57_3 (by decide) rfl (nb rfl))) ?_ | refine AL.go (OpR.plain rfl (r_fieldAddrp fo_57_3 (by decide) rfl (nb rfl))) ?_
              first | refine AL.go (OpR.plain rfl (r_load ti_27 rfl rfl (by simp only [loaded, mpc, mpn, if_true, ler, tks, tkz, tkn, dps, dpz, cap, nap, apn, lnc, lnn, zad, Nat.reduceAdd, adz]; rfl) (nb rfl))) ?_ | refine AL.go (OpR.plain rfl (r_loadp ti_27 rfl (by simp only [loaded, mpc, mpn, if_true, ler, tks, tkz, tkn, dps, dpz, cap, nap, apn, lnc, lnn, zad, Nat.reduceAdd, adz]; rfl) (nb rfl))) ?_
              refine AL.go (OpR.plain rfl (r_callFun ((prs_all hF.1).2) en_13 rfl rfl rfl rfl (.cons (by first | exact A.le_refl _ | (rw [part_over (by omega)]; exact A.le_agg (.cons (C.le_refl _) (.cons (C.le_refl _) (.cons (C.le_refl _) (.cons (C.le_refl _) (.cons (C.le_refl _) (.cons (C.le_refl _) (.cons (C.le_refl _) (.cons (C.le_refl _) (.cons C.le_nil .nil))))))))))) .nil) rfl (nb rfl))) ?_
              refine AL.go (OpR.plain rfl (r_bin rfl rfl (nb rfl) rfl (run_str_add _ _ (by first | omega | (simp only [List.length_map, Int.toNat_natCast] at *; omega) | (simp only [ByteArray.size_append, sz1, sz2, sz4, sz6, sz7, sz10, Int.toNat_natCast] at *; omega))))) ?_
              refine AL.go (OpR.plain rfl (r_assign rfl (nb rfl) (by rintro _ ⟨⟩))) ?_
              refine AL.nil ?_
              refine inbN ?_
              refine thenN ?_
              refine AW.region ?_
              refine AL.go (OpR.plain rfl (r_move rfl (nb rfl) (by rintro _ ⟨⟩))) ?_
              refine AL.go (OpR.plain rfl (r_add rfl rfl (nb rfl) (by first | omega | (simp only [List.length_map, Int.toNat_natCast] at *; omega) | (simp only [ByteArray.size_append, sz1, sz2, sz4, sz6, sz7, sz10, Int.toNat_natCast] at *; omega)) (by first | omega | (simp only [List.length_map, Int.toNat_natCast] at *; omega) | (simp only [ByteArray.size_append, sz1, sz2, sz4, sz6, sz7, sz10, Int.toNat_natCast] at *; omega)))) ?_
              refine AL.go (OpR.plain rfl (r_assign rfl (nb rfl) (by rintro _ ⟨⟩))) ?_
              refine AL.nil ?_
              refine thenN ?_
              refine ⟨⟨i + 1, by omega⟩, by simp only; omega, weakens_id (.cons rfl (A.le_of_eq (by first | rfl | (simp [A.ren, C.ren, renOf, lk]; done) | (simp [A.ren, C.ren, renOf, lk]; omega) | omega)) (.cons rfl (A.le_of_eq (by first | rfl | (simp [A.ren, C.ren, renOf, lk]; done) | (simp [A.ren, C.ren, renOf, lk]; omega) | omega)) (.cons rfl (A.le_of_eq (by first | (exfalso; omega) | (rw [show headM q (i + 1) = headM q i ++ fromM (q.frm.getD i Fr.zero) i from by unfold headM; rw [fromsM]; simp only [bapp]]; unfold fromM; (try rw [joinW_else (by omega)]); (try simp only [A.ren, C.ren]); (first | rw [if_pos (show (q.frm.getD i Fr.zero).as_ = ⟨#[]⟩ by assumption)] | rw [if_neg (show ¬ (q.frm.getD i Fr.zero).as_ = ⟨#[]⟩ by assumption)]); (repeat (first | rw [if_pos (show 0 < i by omega)] | rw [if_neg (show ¬ 0 < i by omega)])); simp only [bapp, bnil, bnil0]; try rfl))) .nil))) (.cons rfl (Ob.le_refl _) .nil) rfl rfl rfl rfl⟩
            · have h13n := h13; try simp only [dtt, dff, bqi, bqf, bni, bnf, nt1, nf1, nt0, nf0, ne_eq, ilt, ile, rows_length, Int.toNat_natCast, List.length_map] at h13n
              refine AW.skip ?_
              refine inbN ?_
              refine thenN ?_
              refine AW.region ?_
              refine AL.go (OpR.plain rfl (r_move rfl (nb rfl) (by rintro _ ⟨⟩))) ?_
              refine AL.go (OpR.plain rfl (r_add rfl rfl (nb rfl) (by first | omega | (simp only [List.length_map, Int.toNat_natCast] at *; omega) | (simp only [ByteArray.size_append, sz1, sz2, sz4, sz6, sz7, sz10, Int.toNat_natCast] at *; omega)) (by first | omega | (simp only [List.length_map, Int.toNat_natCast] at *; omega) | (simp only [ByteArray.size_append, sz1, sz2, sz4, sz6, sz7, sz10, Int.toNat_natCast] at *; omega)))) ?_
              refine AL.go (OpR.plain rfl (r_assign rfl (nb rfl) (by rintro _ ⟨⟩))) ?_
              refine AL.nil ?_
              refine thenN ?_
              refine ⟨⟨i + 1, by omega⟩, by simp only; omega, weakens_id (.cons rfl (A.le_of_eq (by first | rfl | (simp [A.ren, C.ren, renOf, lk]; done) | (simp [A.ren, C.ren, renOf, lk]; omega) | omega)) (.cons rfl (A.le_of_eq (by first | rfl | (simp [A.ren, C.ren, renOf, lk]; done) | (simp [A.ren, C.ren, renOf, lk]; omega) | omega)) (.cons rfl (A.le_of_eq (by first | (exfalso; omega) | (rw [show headM q (i + 1) = headM q i ++ fromM (q.frm.getD i Fr.zero) i from by unfold headM; rw [fromsM]; simp only [bapp]]; unfold fromM; (try rw [joinW_else (by omega)]); (try simp only [A.ren, C.ren]); (first | rw [if_pos (show (q.frm.getD i Fr.zero).as_ = ⟨#[]⟩ by assumption)] | rw [if_neg (show ¬ (q.frm.getD i Fr.zero).as_ = ⟨#[]⟩ by assumption)]); (repeat (first | rw [if_pos (show 0 < i by omega)] | rw [if_neg (show ¬ 0 < i by omega)])); simp only [bapp, bnil, bnil0]; try rfl))) .nil))) (.cons rfl (Ob.le_refl _) .nil) rfl rfl rfl rfl⟩
    · have h2n := h2; try simp only [dtt, dff, bqi, bqf, bni, bnf, nt1, nf1, nt0, nf0, ne_eq, ilt, ile, rows_length, Int.toNat_natCast, List.length_map] at h2n
      refine AL.go (.off rfl rfl (nb rfl) rfl (by rw [h2]; decide) rfl (nb rfl)) ?_
      refine AL.go (.off rfl rfl (nb rfl) rfl (by rw [h2]; decide) rfl (nb rfl)) ?_
      refine AL.go (.off rfl rfl (nb rfl) rfl (by rw [h2]; decide) rfl (nb rfl)) ?_
      refine AL.go (OpR.plain rfl (r_pickFb rfl (h2) rfl (nb rfl) (by rintro _ ⟨⟩; rfl))) ?_
      refine AL.nil ?_
      refine thenN ?_
      refine AW.condF rfl (rfl) ?_
      refine AW.seq ?_
      refine AW.region ?_
      refine AL.go (OpR.plain rfl (r_move rfl (nb rfl) (by rintro _ ⟨⟩))) ?_
      refine AL.go (OpR.plain rfl (r_bin rfl rfl (nb rfl) rfl (run_int_gtr _ _ _))) ?_
      refine AL.nil ?_
      refine thenN ?_
      refine AW.condb rfl (fun h14 => ?_) (fun h14 => ?_)
      · have h14n := h14; try simp only [dtt, dff, bqi, bqf, bni, bnf, nt1, nf1, nt0, nf0, ne_eq, ilt, ile, rows_length, Int.toNat_natCast, List.length_map] at h14n
        refine AW.region ?_
        refine AL.go (OpR.plain rfl (r_move rfl (nb rfl) (by rintro _ ⟨⟩))) ?_
        refine AL.go (OpR.plain rfl (r_bin rfl rfl (nb rfl) rfl (run_str_add _ _ (by first | omega | (simp only [List.length_map, Int.toNat_natCast] at *; omega) | (simp only [ByteArray.size_append, sz1, sz2, sz4, sz6, sz7, sz10, Int.toNat_natCast] at *; omega))))) ?_
        refine AL.go (OpR.plain rfl (r_assign rfl (nb rfl) (by rintro _ ⟨⟩))) ?_
        refine AL.nil ?_
        refine thenN ?_
        refine AW.seq ?_
        refine AW.region ?_
        refine AL.go (OpR.plain rfl (r_move rfl (nb rfl) (by rintro _ ⟨⟩))) ?_
        first | refine AL.go (OpR.plain rfl (r_fieldAddr fo_57_1 (by decide) rfl (nb rfl))) ?_ | refine AL.go (OpR.plain rfl (r_fieldAddrp fo_57_1 (by decide) rfl (nb rfl))) ?_
        first | refine AL.go (OpR.plain rfl (r_load ti_9 rfl rfl rfl (nb rfl))) ?_ | refine AL.go (OpR.plain rfl (r_loadp ti_9 rfl rfl (nb rfl))) ?_
        refine AL.go (OpR.plain rfl (r_bin rfl rfl (nb rfl) rfl (run_str_add _ _ (by first | omega | (simp only [List.length_map, Int.toNat_natCast] at *; omega) | (simp only [ByteArray.size_append, sz1, sz2, sz4, sz6, sz7, sz10, Int.toNat_natCast] at *; omega))))) ?_
        refine AL.go (OpR.plain rfl (r_assign rfl (nb rfl) (by rintro _ ⟨⟩))) ?_
        refine AL.nil ?_
        refine thenN ?_
        refine AW.seq ?_
        refine AW.seq ?_
        refine AW.region ?_
        first | refine AL.go (OpR.plain rfl (r_fieldAddr fo_57_2 (by decide) rfl (nb rfl))) ?_ | refine AL.go (OpR.plain rfl (r_fieldAddrp fo_57_2 (by decide) rfl (nb rfl))) ?_
        first | refine AL.go (OpR.plain rfl (r_load ti_9 rfl rfl rfl (nb rfl))) ?_ | refine AL.go (OpR.plain rfl (r_loadp ti_9 rfl rfl (nb rfl))) ?_
        refine AL.go (OpR.plain rfl (r_bin rfl rfl (nb rfl) rfl (run_str_neq _ _))) ?_
        refine AL.nil ?_
        refine thenN ?_
        refine AW.condb rfl (fun h15 => ?_) (fun h15 => ?_)
        · have h15n := h15; try simp only [dtt, dff, bqi, bqf, bni, bnf, nt1, nf1, nt0, nf0, ne_eq, ilt, ile, rows_length, Int.toNat_natCast, List.length_map] at h15n
          refine AW.region ?_
          refine AL.go (OpR.plain rfl (r_move rfl (nb rfl) (by rintro _ ⟨⟩))) ?_
          refine AL.go (OpR.plain rfl (r_bin rfl rfl (nb rfl) rfl (run_str_add _ _ (by first | omega | (simp only [List.length_map, Int.toNat_natCast] at *; omega) | (simp only [ByteArray.size_append, sz1, sz2, sz4, sz6, sz7, sz10, Int.toNat_natCast] at *; omega))))) ?_
          first | refine AL.go (OpR.plain rfl (r_fieldAddr fo_57_2 (by decide) rfl (nb rfl))) ?_ | refine AL.go (OpR.plain rfl (r_fieldAddrp fo_57_2 (by decide) rfl (nb rfl))) ?_
          first | refine AL.go (OpR.plain rfl (r_load ti_9 rfl rfl rfl (nb rfl))) ?_ | refine AL.go (OpR.plain rfl (r_loadp ti_9 rfl rfl (nb rfl))) ?_
          refine AL.go (OpR.plain rfl (r_bin rfl rfl (nb rfl) rfl (run_str_add _ _ (by first | omega | (simp only [List.length_map, Int.toNat_natCast] at *; omega) | (simp only [ByteArray.size_append, sz1, sz2, sz4, sz6, sz7, sz10, Int.toNat_natCast] at *; omega))))) ?_
          refine AL.go (OpR.plain rfl (r_assign rfl (nb rfl) (by rintro _ ⟨⟩))) ?_
          refine AL.nil ?_
          refine thenN ?_
          refine AW.seq ?_
          refine AW.region ?_
          refine AL.go (OpR.plain rfl (r_move rfl (nb rfl) (by rintro _ ⟨⟩))) ?_
          refine AL.go (OpR.plain rfl (r_bin rfl rfl (nb rfl) rfl (run_int_gtr _ _ _))) ?_
          refine AL.nil ?_
          refine thenN ?_
          refine AW.condb rfl (fun h16 => ?_) (fun h16 => ?_)
          · have h16n := h16; try simp only [dtt, dff, bqi, bqf, bni, bnf, nt1, nf1, nt0, nf0, ne_eq, ilt, ile, rows_length, Int.toNat_natCast, List.length_map] at h16n
            refine AW.region ?_
            refine AL.go (OpR.plain rfl (r_move rfl (nb rfl) (by rintro _ ⟨⟩))) ?_
            refine AL.go (OpR.plain rfl (r_bin rfl rfl (nb rfl) rfl (run_str_add _ _ (by first | omega | (simp only [List.length_map, Int.toNat_natCast] at *; omega) | (simp only [ByteArray.size_append, sz1, sz2, sz4, sz6, sz7, sz10, Int.toNat_natCast] at *; omega))))) ?_
            first | refine AL.go (OpR.plain rfl (r_fieldAddr fo_57_3 (by decide) rfl (nb rfl))) ?_ | refine AL.go (OpR.plain rfl (r_fieldAddrp fo_57_3 (by decide) rfl (nb rfl))) ?_
            first | refine AL.go (OpR.plain rfl (r_load ti_27 rfl rfl (by simp only [loaded, mpc, mpn, if_true, ler, tks, tkz, tkn, dps, dpz, cap, nap, apn, lnc, lnn, zad, Nat.reduceAdd, adz]; rfl) (nb rfl))) ?_ | refine AL.go (OpR.plain rfl (r_loadp ti_27 rfl (by simp only [loaded, mpc, mpn, if_true, ler, tks, tkz, tkn, dps, dpz, cap, nap, apn, lnc, lnn, zad, Nat.reduceAdd, adz]; rfl) (nb rfl))) ?_
            refine AL.go (OpR.plain rfl (r_callFun ((prs_all hF.1).2) en_13 rfl rfl rfl rfl (.cons (by first | exact A.le_refl _ | (rw [part_over (by omega)]; exact A.le_agg (.cons (C.le_refl _) (.cons (C.le_refl _) (.cons (C.le_refl _) (.cons (C.le_refl _) (.cons (C.le_refl _) (.cons (C.le_refl _) (.cons (C.le_refl _) (.cons (C.le_refl _) (.cons C.le_nil .nil))))))))))) .nil) rfl (nb rfl))) ?_
            refine AL.go (OpR.plain rfl (r_bin rfl rfl (nb rfl) rfl (run_str_add _ _ (by first | omega | (simp only [List.length_map, Int.toNat_natCast] at *; omega) | (simp only [ByteArray.size_append, sz1, sz2, sz4, sz6, sz7, sz10, Int.toNat_natCast] at *; omega))))) ?_
            refine AL.go (OpR.plain rfl (r_assign rfl (nb rfl) (by rintro _ ⟨⟩))) ?_
            refine AL.nil ?_
            refine inbN ?_
            refine thenN ?_
            refine AW.region ?_
            refine AL.go (OpR.plain rfl (r_move rfl (nb rfl) (by rintro _ ⟨⟩))) ?_
            refine AL.go (OpR.plain rfl (r_add rfl rfl (nb rfl) (by first | omega | (simp only [List.length_map, Int.toNat_natCast] at *; omega) | (simp only [ByteArray.size_append, sz1, sz2, sz4, sz6, sz7, sz10, Int.toNat_natCast] at *; omega)) (by first | omega | (simp only [List.length_map, Int.toNat_natCast] at *; omega) | (simp only [ByteArray.size_append, sz1, sz2, sz4, sz6, sz7, sz10, Int.toNat_natCast] at *; omega)))) ?_
            refine AL.go (OpR.plain rfl (r_assign rfl (nb rfl) (by rintro _ ⟨⟩))) ?_
            refine AL.nil ?_
            refine thenN ?_
            refine ⟨⟨i + 1, by omega⟩, by simp only; omega, weakens_id (.cons rfl (A.le_of_eq (by first | rfl | (simp [A.ren, C.ren, renOf, lk]; done) | (simp [A.ren, C.ren, renOf, lk]; omega) | omega)) (.cons rfl (A.le_of_eq (by first | rfl | (simp [A.ren, C.ren, renOf, lk]; done) | (simp [A.ren, C.ren, renOf, lk]; omega) | omega)) (.cons rfl (A.le_of_eq (by first | (exfalso; omega) | (rw [show headM q (i + 1) = headM q i ++ fromM (q.frm.getD i Fr.zero) i from by unfold headM; rw [fromsM]; simp only [bapp]]; unfold fromM; (try rw [joinW_else (by omega)]); (try simp only [A.ren, C.ren]); (first | rw [if_pos (show (q.frm.getD i Fr.zero).as_ = ⟨#[]⟩ by assumption)] | rw [if_neg (show ¬ (q.frm.getD i Fr.zero).as_ = ⟨#[]⟩ by assumption)]); (repeat (first | rw [if_pos (show 0 < i by omega)] | rw [if_neg (show ¬ 0 < i by omega)])); simp only [bapp, bnil, bnil0]; try rfl))) .nil))) (.cons rfl (Ob.le_refl _) .nil) rfl rfl rfl rfl⟩
          · have h16n := h16; try simp only [dtt, dff, bqi, bqf, bni, bnf, nt1, nf1, nt0, nf0, ne_eq, ilt, ile, rows_length, Int.toNat_natCast, List.length_map] at h16n
            refine AW.skip ?_
            refine inbN ?_
            refine thenN ?_
            refine AW.region ?_
            refine AL.go (OpR.plain rfl (r_move rfl (nb rfl) (by rintro _ ⟨⟩))) ?_
            refine AL.go (OpR.plain rfl (r_add rfl rfl (nb rfl) (by first | omega | (simp only [List.length_map, Int.toNat_natCast] at *; omega) | (simp only [ByteArray.size_append, sz1, sz2, sz4, sz6, sz7, sz10, Int.toNat_natCast] at *; omega)) (by first | omega | (simp only [List.length_map, Int.toNat_natCast] at *; omega) | (simp only [ByteArray.size_append, sz1, sz2, sz4, sz6, sz7, sz10, Int.toNat_natCast] at *; omega)))) ?_
            refine AL.go (OpR.plain rfl (r_assign rfl (nb rfl) (by rintro _ ⟨⟩))) ?_
            refine AL.nil ?_
            refine thenN ?_
            refine ⟨⟨i + 1, by omega⟩, by simp only; omega, weakens_id (.cons rfl (A.le_of_eq (by first | rfl | (simp [A.ren, C.ren, renOf, lk]; done) | (simp [A.ren, C.ren, renOf, lk]; omega) | omega)) (.cons rfl (A.le_of_eq (by first | rfl | (simp [A.ren, C.ren, renOf, lk]; done) | (simp [A.ren, C.ren, renOf, lk]; omega) | omega)) (.cons rfl (A.le_of_eq (by first | (exfalso; omega) | (rw [show headM q (i + 1) = headM q i ++ fromM (q.frm.getD i Fr.zero) i from by unfold headM; rw [fromsM]; simp only [bapp]]; unfold fromM; (try rw [joinW_else (by omega)]); (try simp only [A.ren, C.ren]); (first | rw [if_pos (show (q.frm.getD i Fr.zero).as_ = ⟨#[]⟩ by assumption)] | rw [if_neg (show ¬ (q.frm.getD i Fr.zero).as_ = ⟨#[]⟩ by assumption)]); (repeat (first | rw [if_pos (show 0 < i by omega)] | rw [if_neg (show ¬ 0 < i by omega)])); simp only [bapp, bnil, bnil0]; try rfl))) .nil))) (.cons rfl (Ob.le_refl _) .nil) rfl rfl rfl rfl⟩
        · have h15n := h15; try simp only [dtt, dff, bqi, bqf, bni, bnf, nt1, nf1, nt0, nf0, ne_eq, ilt, ile, rows_length, Int.toNat_natCast, List.length_map] at h15n
          refine AW.skip ?_
          refine thenN ?_
          refine AW.seq ?_
          refine AW.region ?_
          refine AL.go (OpR.plain rfl (r_move rfl (nb rfl) (by rintro _ ⟨⟩))) ?_
          refine AL.go (OpR.plain rfl (r_bin rfl rfl (nb rfl) rfl (run_int_gtr _ _ _))) ?_
          refine AL.nil ?_
          refine thenN ?_
          refine AW.condb rfl (fun h17 => ?_) (fun h17 => ?_)
          · have h17n := h17; try simp only [dtt, dff, bqi, bqf, bni, bnf, nt1, nf1, nt0, nf0, ne_eq, ilt, ile, rows_length, Int.toNat_natCast, List.length_map] at h17n
            refine AW.region ?_
            refine AL.go (OpR.plain rfl (r_move rfl (nb rfl) (by rintro _ ⟨⟩))) ?_
            refine AL.go (OpR.plain rfl (r_bin rfl rfl (nb rfl) rfl (run_str_add _ _ (by first | omega | (simp only [List.length_map, Int.toNat_natCast] at *; omega) | (simp only [ByteArray.size_append, sz1, sz2, sz4, sz6, sz7, sz10, Int.toNat_natCast] at *; omega))))) ?_
            first | refine AL.go (OpR.plain rfl (r_fieldAddr fo_57_3 (by decide) rfl (nb rfl))) ?_ | refine AL.go (OpR.plain rfl (r_fieldAddrp fo_57_3 (by decide) rfl (nb rfl))) ?_
            first | refine AL.go (OpR.plain rfl (r_load ti_27 rfl rfl (by simp only [loaded, mpc, mpn, if_true, ler, tks, tkz, tkn, dps, dpz, cap, nap, apn, lnc, lnn, zad, Nat.reduceAdd, adz]; rfl) (nb rfl))) ?_ | refine AL.go (OpR.plain rfl (r_loadp ti_27 rfl (by simp only [loaded, mpc, mpn, if_true, ler, tks, tkz, tkn, dps, dpz, cap, nap, apn, lnc, lnn, zad, Nat.reduceAdd, adz]; rfl) (nb rfl))) ?_
            refine AL.go (OpR.plain rfl (r_callFun ((prs_all hF.1).2) en_13 rfl rfl rfl rfl (.cons (by first | exact A.le_refl _ | (rw [part_over (by omega)]; exact A.le_agg (.cons (C.le_refl _) (.cons (C.le_refl _) (.cons (C.le_refl _) (.cons (C.le_refl _) (.cons (C.le_refl _) (.cons (C.le_refl _) (.cons (C.le_refl _) (.cons (C.le_refl _) (.cons C.le_nil .nil))))))))))) .nil) rfl (nb rfl))) ?_
            refine AL.go (OpR.plain rfl (r_bin rfl rfl (nb rfl) rfl (run_str_add _ _ (by first | omega | (simp only [List.length_map, Int.toNat_natCast] at *; omega) | (simp only [ByteArray.size_append, sz1, sz2, sz4, sz6, sz7, sz10, Int.toNat_natCast] at *; omega))))) ?_
            refine AL.go (OpR.plain rfl (r_assign rfl (nb rfl) (by rintro _ ⟨⟩))) ?_
            refine AL.nil ?_
            refine inbN ?_
            refine thenN ?_
            refine AW.region ?_
            refine AL.go (OpR.plain rfl (r_move rfl (nb rfl) (by rintro _ ⟨⟩))) ?_
            refine AL.go (OpR.plain rfl (r_add rfl rfl (nb rfl) (by first | omega | (simp only [List.length_map, Int.toNat_natCast] at *; omega) | (simp only [ByteArray.size_append, sz1, sz2, sz4, sz6, sz7, sz10, Int.toNat_natCast] at *; omega)) (by first | omega | (simp only [List.length_map, Int.toNat_natCast] at *; omega) | (simp only [ByteArray.size_append, sz1, sz2, sz4, sz6, sz7, sz10, Int.toNat_natCast] at *; omega)))) ?_
            refine AL.go (OpR.plain rfl (r_assign rfl (nb rfl) (by rintro _ ⟨⟩))) ?_
            refine AL.nil ?_
            refine thenN ?_
            refine ⟨⟨i + 1, by omega⟩, by simp only; omega, weakens_id (.cons rfl (A.le_of_eq (by first | rfl | (simp [A.ren, C.ren, renOf, lk]; done) | (simp [A.ren, C.ren, renOf, lk]; omega) | omega)) (.cons rfl (A.le_of_eq (by first | rfl | (simp [A.ren, C.ren, renOf, lk]; done) | (simp [A.ren, C.ren, renOf, lk]; omega) | omega)) (.cons rfl (A.le_of_eq (by first | (exfalso; omega) | (rw [show headM q (i + 1) = headM q i ++ fromM (q.frm.getD i Fr.zero) i from by unfold headM; rw [fromsM]; simp only [bapp]]; unfold fromM; (try rw [joinW_else (by omega)]); (try simp only [A.ren, C.ren]); (first | rw [if_pos (show (q.frm.getD i Fr.zero).as_ = ⟨#[]⟩ by assumption)] | rw [if_neg (show ¬ (q.frm.getD i Fr.zero).as_ = ⟨#[]⟩ by assumption)]); (repeat (first | rw [if_pos (show 0 < i by omega)] | rw [if_neg (show ¬ 0 < i by omega)])); simp only [bapp, bnil, bnil0]; try rfl))) .nil))) (.cons rfl (Ob.le_refl _) .nil) rfl rfl rfl rfl⟩
          · have h17n := h17; try simp only [dtt, dff, bqi, bqf, bni, bnf, nt1, nf1, nt0, nf0, ne_eq, ilt, ile, rows_length, Int.toNat_natCast, List.length_map] at h17n
            refine AW.skip ?_
            refine inbN ?_
            refine thenN ?_
            refine AW.region ?_
            refine AL.go (OpR.plain rfl (r_move rfl (nb rfl) (by rintro _ ⟨⟩))) ?_
            refine AL.go (OpR.plain rfl (r_add rfl rfl (nb rfl) (by first | omega | (simp only [List.length_map, Int.toNat_natCast] at *; omega) | (simp only [ByteArray.size_append, sz1, sz2, sz4, sz6, sz7, sz10, Int.toNat_natCast] at *; omega)) (by first | omega | (simp only [List.length_map, Int.toNat_natCast] at *; omega) | (simp only [ByteArray.size_append, sz1, sz2, sz4, sz6, sz7, sz10, Int.toNat_natCast] at *; omega)))) ?_
            refine AL.go (OpR.plain rfl (r_assign rfl (nb rfl) (by rintro _ ⟨⟩))) ?_
            refine AL.nil ?_
            refine thenN ?_
            refine ⟨⟨i + 1, by omega⟩, by simp only; omega, weakens_id (.cons rfl (A.le_of_eq (by first | rfl | (simp [A.ren, C.ren, renOf, lk]; done) | (simp [A.ren, C.ren, renOf, lk]; omega) | omega)) (.cons rfl (A.le_of_eq (by first | rfl | (simp [A.ren, C.ren, renOf, lk]; done) | (simp [A.ren, C.ren, renOf, lk]; omega) | omega)) (.cons rfl (A.le_of_eq (by first | (exfalso; omega) | (rw [show headM q (i + 1) = headM q i ++ fromM (q.frm.getD i Fr.zero) i from by unfold headM; rw [fromsM]; simp only [bapp]]; unfold fromM; (try rw [joinW_else (by omega)]); (try simp only [A.ren, C.ren]); (first | rw [if_pos (show (q.frm.getD i Fr.zero).as_ = ⟨#[]⟩ by assumption)] | rw [if_neg (show ¬ (q.frm.getD i Fr.zero).as_ = ⟨#[]⟩ by assumption)]); (repeat (first | rw [if_pos (show 0 < i by omega)] | rw [if_neg (show ¬ 0 < i by omega)])); simp only [bapp, bnil, bnil0]; try rfl))) .nil))) (.cons rfl (Ob.le_refl _) .nil) rfl rfl rfl rfl⟩
      · have h14n := h14; try simp only [dtt, dff, bqi, bqf, bni, bnf, nt1, nf1, nt0, nf0, ne_eq, ilt, ile, rows_length, Int.toNat_natCast, List.length_map] at h14n
        refine AW.skip ?_
        refine thenN ?_
        refine AW.seq ?_
        refine AW.region ?_
        refine AL.go (OpR.plain rfl (r_move rfl (nb rfl) (by rintro _ ⟨⟩))) ?_
        first | refine AL.go (OpR.plain rfl (r_fieldAddr fo_57_1 (by decide) rfl (nb rfl))) ?_ | refine AL.go (OpR.plain rfl (r_fieldAddrp fo_57_1 (by decide) rfl (nb rfl))) ?_
        first | refine AL.go (OpR.plain rfl (r_load ti_9 rfl rfl rfl (nb rfl))) ?_ | refine AL.go (OpR.plain rfl (r_loadp ti_9 rfl rfl (nb rfl))) ?_
        refine AL.go (OpR.plain rfl (r_bin rfl rfl (nb rfl) rfl (run_str_add _ _ (by first | omega | (simp only [List.length_map, Int.toNat_natCast] at *; omega) | (simp only [ByteArray.size_append, sz1, sz2, sz4, sz6, sz7, sz10, Int.toNat_natCast] at *; omega))))) ?_
        refine AL.go (OpR.plain rfl (r_assign rfl (nb rfl) (by rintro _ ⟨⟩))) ?_
        refine AL.nil ?_
        refine thenN ?_
        refine AW.seq ?_
        refine AW.seq ?_
        refine AW.region ?_
        first | refine AL.go (OpR.plain rfl (r_fieldAddr fo_57_2 (by decide) rfl (nb rfl))) ?_ | refine AL.go (OpR.plain rfl (r_fieldAddrp fo_57_2 (by decide) rfl (nb rfl))) ?_
        first | refine AL.go (OpR.plain rfl (r_load ti_9 rfl rfl rfl (nb rfl))) ?_ | refine AL.go (OpR.plain rfl (r_loadp ti_9 rfl rfl (nb rfl))) ?_
        refine AL.go (OpR.plain rfl (r_bin rfl rfl (nb rfl) rfl (run_str_neq _ _))) ?_
        refine AL.nil ?_
        refine thenN ?_
        refine AW.condb rfl (fun h18 => ?_) (fun h18 => ?_)
        · have h18n := h18; try simp only [dtt, dff, bqi, bqf, bni, bnf, nt1, nf1, nt0, nf0, ne_eq, ilt, ile, rows_length, Int.toNat_natCast, List.length_map] at h18n
          refine AW.region ?_
          refine AL.go (OpR.plain rfl (r_move rfl (nb rfl) (by rintro _ ⟨⟩))) ?_
          refine AL.go (OpR.plain rfl (r_bin rfl rfl (nb rfl) rfl (run_str_add _ _ (by first | omega | (simp only [List.length_map, Int.toNat_natCast] at *; omega) | (simp only [ByteArray.size_append, sz1, sz2, sz4, sz6, sz7, sz10, Int.toNat_natCast] at *; omega))))) ?_
          first | refine AL.go (OpR.plain rfl (r_fieldAddr fo_57_2 (by decide) rfl (nb rfl))) ?_ | refine AL.go (OpR.plain rfl (r_fieldAddrp fo_57_2 (by decide) rfl (nb rfl))) ?_
          first | refine AL.go (OpR.plain rfl (r_load ti_9 rfl rfl rfl (nb rfl))) ?_ | refine AL.go (OpR.plain rfl (r_loadp ti_9 rfl rfl (nb rfl))) ?_
          refine AL.go (OpR.plain rfl (r_bin rfl rfl (nb rfl) rfl (run_str_add _ _ (by first | omega | (simp only [List.length_map, Int.toNat_natCast] at *; omega) | (simp only [ByteArray.size_append, sz1, sz2, sz4, sz6, sz7, sz10, Int.toNat_natCast] at *; omega))))) ?_
          refine AL.go (OpR.plain rfl (r_assign rfl (nb rfl) (by rintro _ ⟨⟩))) ?_
          refine AL.nil ?_
          refine thenN ?_
          refine AW.seq ?_
          refine AW.region ?_
          refine AL.go (OpR.plain rfl (r_move rfl (nb rfl) (by rintro _ ⟨⟩))) ?_
          refine AL.go (OpR.plain rfl (r_bin rfl rfl (nb rfl) rfl (run_int_gtr _ _ _))) ?_
          refine AL.nil ?_
          refine thenN ?_
          refine AW.condb rfl (fun h19 => ?_) (fun h19 => ?_)
          · have h19n := h19; try simp only [dtt, dff, bqi, bqf, bni, bnf, nt1, nf1, nt0, nf0, ne_eq, ilt, ile, rows_length, Int.toNat_natCast, List.length_map] at h19n
            refine AW.region ?_
            refine AL.go (OpR.plain rfl (r_move rfl (nb rfl) (by rintro _ ⟨⟩))) ?_
            refine AL.go (OpR.plain rfl (r_bin rfl rfl (nb rfl) rfl (run_str_add _ _ (by first | omega | (simp only [List.length_map, Int.toNat_natCast] at *; omega) | (simp only [ByteArray.size_append, sz1, sz2, sz4, sz6, sz7, sz10, Int.toNat_natCast] at *; omega))))) ?_
            first | refine AL.go (OpR.plain rfl (r_fieldAddr fo_57_3 (by decide) rfl (nb rfl))) ?_ | refine AL.go (OpR.plain rfl (r_fieldAddrp fo_57_3 (by decide) rfl (nb rfl))) ?_
            first | refine AL.go (OpR.plain rfl (r_load ti_27 rfl rfl (by simp only [loaded, mpc, mpn, if_true, ler, tks, tkz, tkn, dps, dpz, cap, nap, apn, lnc, lnn, zad, Nat.reduceAdd, adz]; rfl) (nb rfl))) ?_ | refine AL.go (OpR.plain rfl (r_loadp ti_27 rfl (by simp only [loaded, mpc, mpn, if_true, ler, tks, tkz, tkn, dps, dpz, cap, nap, apn, lnc, lnn, zad, Nat.reduceAdd, adz]; rfl) (nb rfl))) ?_
            refine AL.go (OpR.plain rfl (r_callFun ((prs_all hF.1).2) en_13 rfl rfl rfl rfl (.cons (by first | exact A.le_refl _ | (rw [part_over (by omega)]; exact A.le_agg (.cons (C.le_refl _) (.cons (C.le_refl _) (.cons (C.le_refl _) (.cons (C.le_refl _) (.cons (C.le_refl _) (.cons (C.le_refl _) (.cons (C.le_refl _) (.cons (C.le_refl _) (.cons C.le_nil .nil))))))))))) .nil) rfl (nb rfl))) ?_
            refine AL.go (OpR.plain rfl (r_bin rfl rfl (nb rfl) rfl (run_str_add _ _ (by first | omega | (simp only [List.length_map, Int.toNat_natCast] at *; omega) | (simp only [ByteArray.size_append, sz1, sz2, sz4, sz6, sz7, sz10, Int.toNat_natCast] at *; omega))))) ?_
            refine AL.go (OpR.plain rfl (r_assign rfl (nb rfl) (by rintro _ ⟨⟩))) ?_
            refine AL.nil ?_
            refine inbN ?_
            refine thenN ?_
            refine AW.region ?_
            refine AL.go (OpR.plain rfl (r_move rfl (nb rfl) (by rintro _ ⟨⟩))) ?_
            refine AL.go (OpR.plain rfl (r_add rfl rfl (nb rfl) (by first | omega | (simp only [List.length_map, Int.toNat_natCast] at *; omega) | (simp only [ByteArray.size_append, sz1, sz2, sz4, sz6, sz7, sz10, Int.toNat_natCast] at *; omega)) (by first | omega | (simp only [List.length_map, Int.toNat_natCast] at *; omega) | (simp only [ByteArray.size_append, sz1, sz2, sz4, sz6, sz7, sz10, Int.toNat_natCast] at *; omega)))) ?_
            refine AL.go (OpR.plain rfl (r_assign rfl (nb rfl) (by rintro _ ⟨⟩))) ?_
            refine AL.nil ?_
            refine thenN ?_
            refine ⟨⟨i + 1, by omega⟩, by simp only; omega, weakens_id (.cons rfl (A.le_of_eq (by first | rfl | (simp [A.ren, C.ren, renOf, lk]; done) | (simp [A.ren, C.ren, renOf, lk]; omega) | omega)) (.cons rfl (A.le_of_eq (by first | rfl | (simp [A.ren, C.ren, renOf, lk]; done) | (simp [A.ren, C.ren, renOf, lk]; omega) | omega)) (.cons rfl (A.le_of_eq (by first | (exfalso; omega) | (rw [show headM q (i + 1) = headM q i ++ fromM (q.frm.getD i Fr.zero) i from by unfold headM; rw [fromsM]; simp only [bapp]]; unfold fromM; (try rw [joinW_else (by omega)]); (try simp only [A.ren, C.ren]); (first | rw [if_pos (show (q.frm.getD i Fr.zero).as_ = ⟨#[]⟩ by assumption)] | rw [if_neg (show ¬ (q.frm.getD i Fr.zero).as_ = ⟨#[]⟩ by assumption)]); (repeat (first | rw [if_pos (show 0 < i by omega)] | rw [if_neg (show ¬ 0 < i by omega)])); simp only [bapp, bnil, bnil0]; try rfl))) .nil))) (.cons rfl (Ob.le_refl _) .nil) rfl rfl rfl rfl⟩
          · have h19n := h19; try simp only [dtt, dff, bqi, bqf, bni, bnf, nt1, nf1, nt0, nf0, ne_eq, ilt, ile, rows_length, Int.toNat_natCast, List.length_map] at h19n
            refine AW.skip ?_
            refine inbN ?_
            refine thenN ?_
            refine AW.region ?_
            refine AL.go (OpR.plain rfl (r_move rfl (nb rfl) (by rintro _ ⟨⟩))) ?_
            refine AL.go (OpR.plain rfl (r_add rfl rfl (nb rfl) (by first | omega | (simp only [List.length_map, Int.toNat_natCast] at *; omega) | (simp only [ByteArray.size_append, sz1, sz2, sz4, sz6, sz7, sz10, Int.toNat_natCast] at *; omega)) (by first | omega | (simp only [List.length_map, Int.toNat_natCast] at *; omega) | (simp only [ByteArray.size_append, sz1, sz2, sz4, sz6, sz7, sz10, Int.toNat_natCast] at *; omega)))) ?_
            refine AL.go (OpR.plain rfl (r_assign rfl (nb rfl) (by rintro _ ⟨⟩))) ?_
            refine AL.nil ?_
            refine thenN ?_
            refine ⟨⟨i + 1, by omega⟩, by simp only; omega, weakens_id (.cons rfl (A.le_of_eq (by first | rfl | (simp [A.ren, C.ren, renOf, lk]; done) | (simp [A.ren, C.ren, renOf, lk]; omega) | omega)) (.cons rfl (A.le_of_eq (by first | rfl | (simp [A.ren, C.ren, renOf, lk]; done) | (simp [A.ren, C.ren, renOf, lk]; omega) | omega)) (.cons rfl (A.le_of_eq (by first | (exfalso; omega) | (rw [show headM q (i + 1) = headM q i ++ fromM (q.frm.getD i Fr.zero) i from by unfold headM; rw [fromsM]; simp only [bapp]]; unfold fromM; (try rw [joinW_else (by omega)]); (try simp only [A.ren, C.ren]); (first | rw [if_pos (show (q.frm.getD i Fr.zero).as_ = ⟨#[]⟩ by assumption)] | rw [if_neg (show ¬ (q.frm.getD i Fr.zero).as_ = ⟨#[]⟩ by assumption)]); (repeat (first | rw [if_pos (show 0 < i by omega)] | rw [if_neg (show ¬ 0 < i by omega)])); simp only [bapp, bnil, bnil0]; try rfl))) .nil))) (.cons rfl (Ob.le_refl _) .nil) rfl rfl rfl rfl⟩
        · have h18n := h18; try simp only [dtt, dff, bqi, bqf, bni, bnf, nt1, nf1, nt0, nf0, ne_eq, ilt, ile, rows_length, Int.toNat_natCast, List.length_map] at h18n
          refine AW.skip ?_
          refine thenN ?_
          refine AW.seq ?_
          refine AW.region ?_
          refine AL.go (OpR.plain rfl (r_move rfl (nb rfl) (by rintro _ ⟨⟩))) ?_
          refine AL.go (OpR.plain rfl (r_bin rfl rfl (nb rfl) rfl (run_int_gtr _ _ _))) ?_
          refine AL.nil ?_
          refine thenN ?_
          refine AW.condb rfl (fun h20 => ?_) (fun h20 => ?_)
          · have h20n := h20; try simp only [dtt, dff, bqi, bqf, bni, bnf, nt1, nf1, nt0, nf0, ne_eq, ilt, ile, rows_length, Int.toNat_natCast, List.length_map] at h20n
            refine AW.region ?_
            refine AL.go (OpR.plain rfl (r_move rfl (nb rfl) (by rintro _ ⟨⟩))) ?_
            refine AL.go (OpR.plain rfl (r_bin rfl rfl (nb rfl) rfl (run_str_add _ _ (by first | omega | (simp only [List.length_map, Int.toNat_natCast] at *; omega) | (simp only [ByteArray.size_append, sz1, sz2, sz4, sz6, sz7, sz10, Int.toNat_natCast] at *; omega))))) ?_
            first | refine AL.go (OpR.plain rfl (r_fieldAddr fo_57_3 (by decide) rfl (nb rfl))) ?_ | refine AL.go (OpR.plain rfl (r_fieldAddrp fo_57_3 (by decide) rfl (nb rfl))) ?_
            first | refine AL.go (OpR.plain rfl (r_load ti_27 rfl rfl (by simp only [loaded, mpc, mpn, if_true, ler, tks, tkz, tkn, dps, dpz, cap, nap, apn, lnc, lnn, zad, Nat.reduceAdd, adz]; rfl) (nb rfl))) ?_ | refine AL.go (OpR.plain rfl (r_loadp ti_27 rfl (by simp only [loaded, mpc, mpn, if_true, ler, tks, tkz, tkn, dps, dpz, cap, nap, apn, lnc, lnn, zad, Nat.reduceAdd, adz]; rfl) (nb rfl))) ?_
            refine AL.go (OpR.plain rfl (r_callFun ((prs_all hF.1).2) en_13 rfl rfl rfl rfl (.cons (by first | exact A.le_refl _ | (rw [part_over (by omega)]; exact A.le_agg (.cons (C.le_refl _) (.cons (C.le_refl _) (.cons (C.le_refl _) (.cons (C.le_refl _) (.cons (C.le_refl _) (.cons (C.le_refl _) (.cons (C.le_refl _) (.cons (C.le_refl _) (.cons C.le_nil .nil))))))))))) .nil) rfl (nb rfl))) ?_
            refine AL.go (OpR.plain rfl (r_bin rfl rfl (nb rfl) rfl (run_str_add _ _ (by first | omega | (simp only [List.length_map, Int.toNat_natCast] at *; omega) | (simp only [ByteArray.size_append, sz1, sz2, sz4, sz6, sz7, sz10, Int.toNat_natCast] at *; omega))))) ?_
            refine AL.go (OpR.plain rfl (r_assign rfl (nb rfl) (by rintro _ ⟨⟩))) ?_
            refine AL.nil ?_
            refine inbN ?_
            refine thenN ?_
            refine AW.region ?_
            refine AL.go (OpR.plain rfl (r_move rfl (nb rfl) (by rintro _ ⟨⟩))) ?_
            refine AL.go (OpR.plain rfl (r_add rfl rfl (nb rfl) (by first | omega | (simp only [List.length_map, Int.toNat_natCast] at *; omega) | (simp only [ByteArray.size_append, sz1, sz2, sz4, sz6, sz7, sz10, Int.toNat_natCast] at *; omega)) (by first | omega | (simp only [List.length_map, Int.toNat_natCast] at *; omega) | (simp only [ByteArray.size_append, sz1, sz2, sz4, sz6, sz7, sz10, Int.toNat_natCast] at *; omega)))) ?_
            refine AL.go (OpR.plain rfl (r_assign rfl (nb rfl) (by rintro _ ⟨⟩))) ?_
            refine AL.nil ?_
            refine thenN ?_
            refine ⟨⟨i + 1, by omega⟩, by simp only; omega, weakens_id (.cons rfl (A.le_of_eq (by first | rfl | (simp [A.ren, C.ren, renOf, lk]; done) | (simp [A.ren, C.ren, renOf, lk]; omega) | omega)) (.cons rfl (A.le_of_eq (by first | rfl | (simp [A.ren, C.ren, renOf, lk]; done) | (simp [A.ren, C.ren, renOf, lk]; omega) | omega)) (.cons rfl (A.le_of_eq (by first | (exfalso; omega) | (rw [show headM q (i + 1) = headM q i ++ fromM (q.frm.getD i Fr.zero) i from by unfold headM; rw [fromsM]; simp only [bapp]]; unfold fromM; (try rw [joinW_else (by omega)]); (try simp only [A.ren, C.ren]); (first | rw [if_pos (show (q.frm.getD i Fr.zero).as_ = ⟨#[]⟩ by assumption)] | rw [if_neg (show ¬ (q.frm.getD i Fr.zero).as_ = ⟨#[]⟩ by assumption)]); (repeat (first | rw [if_pos (show 0 < i by omega)] | rw [if_neg (show ¬ 0 < i by omega)])); simp only [bapp, bnil, bnil0]; try rfl))) .nil))) (.cons rfl (Ob.le_refl _) .nil) rfl rfl rfl rfl⟩
          · have h20n := h20; try simp only [dtt, dff, bqi, bqf, bni, bnf, nt1, nf1, nt0, nf0, ne_eq, ilt, ile, rows_length, Int.toNat_natCast, List.length_map] at h20n
            refine AW.skip ?_
            refine inbN ?_
            refine thenN ?_
            refine AW.region ?_
            refine AL.go (OpR.plain rfl (r_move rfl (nb rfl) (by rintro _ ⟨⟩))) ?_
            refine AL.go (OpR.plain rfl (r_add rfl rfl (nb rfl) (by first | omega | (simp only [List.length_map, Int.toNat_natCast] at *; omega) | (simp only [ByteArray.size_append, sz1, sz2, sz4, sz6, sz7, sz10, Int.toNat_natCast] at *; omega)) (by first | omega | (simp only [List.length_map, Int.toNat_natCast] at *; omega) | (simp only [ByteArray.size_append, sz1, sz2, sz4, sz6, sz7, sz10, Int.toNat_natCast] at *; omega)))) ?_
            refine AL.go (OpR.plain rfl (r_assign rfl (nb rfl) (by rintro _ ⟨⟩))) ?_
            refine AL.nil ?_
            refine thenN ?_
            refine ⟨⟨i + 1, by omega⟩, by simp only; omega, weakens_id (.cons rfl (A.le_of_eq (by first | rfl | (simp [A.ren, C.ren, renOf, lk]; done) | (simp [A.ren, C.ren, renOf, lk]; omega) | omega)) (.cons rfl (A.le_of_eq (by first | rfl | (simp [A.ren, C.ren, renOf, lk]; done) | (simp [A.ren, C.ren, renOf, lk]; omega) | omega)) (.cons rfl (A.le_of_eq (by first | (exfalso; omega) | (rw [show headM q (i + 1) = headM q i ++ fromM (q.frm.getD i Fr.zero) i from by unfold headM; rw [fromsM]; simp only [bapp]]; unfold fromM; (try rw [joinW_else (by omega)]); (try simp only [A.ren, C.ren]); (first | rw [if_pos (show (q.frm.getD i Fr.zero).as_ = ⟨#[]⟩ by assumption)] | rw [if_neg (show ¬ (q.frm.getD i Fr.zero).as_ = ⟨#[]⟩ by assumption)]); (repeat (first | rw [if_pos (show 0 < i by omega)] | rw [if_neg (show ¬ 0 < i by omega)])); simp only [bapp, bnil, bnil0]; try rfl))) .nil))) (.cons rfl (Ob.le_refl _) .nil) rfl rfl rfl rfl⟩
  · have h1n := h1; try simp only [dtt, dff, bqi, bqf, bni, bnf, nt1, nf1, nt0, nf0, ne_eq, ilt, ile, rows_length, Int.toNat_natCast, List.length_map] at h1n
    refine AW.exit ?_
    refine thenX ?_
    refine thenX ?_
    refine inbE ?_
    refine thenN ?_
    refine AW.seq ?_
    refine AW.seq ?_
    refine AW.region ?_
    first | refine AL.go (OpR.plain rfl (r_fieldAddr fo_37_2 (by decide) rfl (nb rfl))) ?_ | refine AL.go (OpR.plain rfl (r_fieldAddrp fo_37_2 (by decide) rfl (nb rfl))) ?_
    first | refine AL.go (OpR.plain rfl (r_fieldAddr fo_27_0 (by decide) rfl (nb rfl))) ?_ | refine AL.go (OpR.plain rfl (r_fieldAddrp fo_27_0 (by decide) rfl (nb rfl))) ?_
    first | refine AL.go (OpR.plain rfl (r_load ti_3 rfl rfl rfl (nb rfl))) ?_ | refine AL.go (OpR.plain rfl (r_loadp ti_3 rfl rfl (nb rfl))) ?_
    refine AL.go (OpR.plain rfl (r_bin rfl rfl (nb rfl) rfl (run_int_neq _ _ _))) ?_
    refine AL.nil ?_
    refine thenN ?_
    refine AW.condb rfl (fun h21 => ?_) (fun h21 => ?_)
    · have h21n := h21; try simp only [dtt, dff, bqi, bqf, bni, bnf, nt1, nf1, nt0, nf0, ne_eq, ilt, ile, rows_length, Int.toNat_natCast, List.length_map] at h21n
      refine AW.region ?_
      refine AL.go (OpR.plain rfl (r_move rfl (nb rfl) (by rintro _ ⟨⟩))) ?_
      refine AL.go (OpR.plain rfl (r_bin rfl rfl (nb rfl) rfl (run_str_add _ _ (by first | omega | (simp only [List.length_map, Int.toNat_natCast] at *; omega) | (simp only [ByteArray.size_append, sz1, sz2, sz4, sz6, sz7, sz10, Int.toNat_natCast] at *; omega))))) ?_
      first | refine AL.go (OpR.plain rfl (r_fieldAddr fo_37_2 (by decide) rfl (nb rfl))) ?_ | refine AL.go (OpR.plain rfl (r_fieldAddrp fo_37_2 (by decide) rfl (nb rfl))) ?_
      first | refine AL.go (OpR.plain rfl (r_load ti_27 rfl rfl (by simp only [loaded, mpc, mpn, if_true, ler, tks, tkz, tkn, dps, dpz, cap, nap, apn, lnc, lnn, zad, Nat.reduceAdd, adz]; rfl) (nb rfl))) ?_ | refine AL.go (OpR.plain rfl (r_loadp ti_27 rfl (by simp only [loaded, mpc, mpn, if_true, ler, tks, tkz, tkn, dps, dpz, cap, nap, apn, lnc, lnn, zad, Nat.reduceAdd, adz]; rfl) (nb rfl))) ?_
      refine AL.go (OpR.plain rfl (r_callFun ((prs_all hQ.whr).2) en_13 rfl rfl rfl rfl (.cons (by first | exact A.le_refl _ | (rw [part_over (by omega)]; exact A.le_agg (.cons (C.le_refl _) (.cons (C.le_refl _) (.cons (C.le_refl _) (.cons (C.le_refl _) (.cons (C.le_refl _) (.cons (C.le_refl _) (.cons (C.le_refl _) (.cons (C.le_refl _) (.cons C.le_nil .nil))))))))))) .nil) rfl (nb rfl))) ?_
      refine AL.go (OpR.plain rfl (r_bin rfl rfl (nb rfl) rfl (run_str_add _ _ (by first | omega | (simp only [List.length_map, Int.toNat_natCast] at *; omega) | (simp only [ByteArray.size_append, sz1, sz2, sz4, sz6, sz7, sz10, Int.toNat_natCast] at *; omega))))) ?_
      refine AL.go (OpR.plain rfl (r_assign rfl (nb rfl) (by rintro _ ⟨⟩))) ?_
      refine AL.nil ?_
      refine thenN ?_
      refine AW.seq ?_
      refine AW.seq ?_
      refine AW.region ?_
      first | refine AL.go (OpR.plain rfl (r_fieldAddr fo_37_3 (by decide) rfl (nb rfl))) ?_ | refine AL.go (OpR.plain rfl (r_fieldAddrp fo_37_3 (by decide) rfl (nb rfl))) ?_
      first | refine AL.go (OpR.plain rfl (r_load ti_25 rfl rfl rfl (nb rfl))) ?_ | refine AL.go (OpR.plain rfl (r_loadp ti_25 rfl rfl (nb rfl))) ?_
      refine AL.go (OpR.plain rfl (r_len un_25 rfl (by first | exact .sl | exact .own | exact .row | exact .nil) (by intro _ h; cases h) (nb rfl) (by rintro _ ⟨⟩))) ?_
      refine AL.go (OpR.plain rfl (r_bin rfl rfl (nb rfl) rfl (run_int_gtr _ _ _))) ?_
      refine AL.nil ?_
      refine thenN ?_
      refine AW.condb rfl (fun h22 => ?_) (fun h22 => ?_)
      · have h22n := h22; try simp only [dtt, dff, bqi, bqf, bni, bnf, nt1, nf1, nt0, nf0, ne_eq, ilt, ile, rows_length, Int.toNat_natCast, List.length_map] at h22n
        refine AW.region ?_
        refine AL.go (OpR.plain rfl (r_move rfl (nb rfl) (by rintro _ ⟨⟩))) ?_
        refine AL.go (OpR.plain rfl (r_bin rfl rfl (nb rfl) rfl (run_str_add _ _ (by first | omega | (simp only [List.length_map, Int.toNat_natCast] at *; omega) | (simp only [ByteArray.size_append, sz1, sz2, sz4, sz6, sz7, sz10, Int.toNat_natCast] at *; omega))))) ?_
        first | refine AL.go (OpR.plain rfl (r_fieldAddr fo_37_3 (by decide) rfl (nb rfl))) ?_ | refine AL.go (OpR.plain rfl (r_fieldAddrp fo_37_3 (by decide) rfl (nb rfl))) ?_
        first | refine AL.go (OpR.plain rfl (r_load ti_25 rfl rfl rfl (nb rfl))) ?_ | refine AL.go (OpR.plain rfl (r_loadp ti_25 rfl rfl (nb rfl))) ?_
        refine AL.go (OpR.plain rfl (r_callFun (rlist_p q.group hQ.gl (fun x hx => (prs_all (hQ.group x hx)).2) hQ.groupS) en_33 rfl rfl rfl rfl (.cons (A.le_refl _) .nil) rfl (nb rfl))) ?_
        refine AL.go (OpR.plain rfl (r_bin rfl rfl (nb rfl) rfl (run_str_add _ _ (by first | omega | (simp only [List.length_map, Int.toNat_natCast] at *; omega) | (simp only [ByteArray.size_append, sz1, sz2, sz4, sz6, sz7, sz10, Int.toNat_natCast] at *; omega))))) ?_
        refine AL.go (OpR.plain rfl (r_assign rfl (nb rfl) (by rintro _ ⟨⟩))) ?_
        refine AL.nil ?_
        refine thenN ?_
        refine AW.seq ?_
        refine AW.region ?_
        refine AL.go (OpR.plain rfl (r_move rfl (nb rfl) (by rintro _ ⟨⟩))) ?_
        refine AL.go (OpR.plain rfl (r_assign rfl (nb rfl) (by rintro _ ⟨⟩))) ?_
        refine AL.nil ?_
        refine thenN ?_
        refine AW.ret ?_
        refine fin_id (.inr rfl) (ends_of rfl (.tmp rfl .nil)) ?_ .nil rfl rfl rfl rfl
        simp only [retA]
        refine A.le_of_eq ?_
        have e : i = q.frm.length := by omega
        subst e
        unfold queryM
        first | rw [if_pos (show q.whr.op ≠ 0 by first | assumption | omega)] | rw [if_neg (show ¬ q.whr.op ≠ 0 by first | assumption | omega)]
        first | rw [if_pos (List.eq_nil_of_length_eq_zero (by omega))] | rw [if_neg (by intro hh; have := congrArg List.length hh; simp only [lnn] at this; omega)]
        try simp only [bapp, bnil, bnil0]
      · have h22n := h22; try simp only [dtt, dff, bqi, bqf, bni, bnf, nt1, nf1, nt0, nf0, ne_eq, ilt, ile, rows_length, Int.toNat_natCast, List.length_map] at h22n
        refine AW.skip ?_
        refine thenN ?_
        refine AW.seq ?_
        refine AW.region ?_
        refine AL.go (OpR.plain rfl (r_move rfl (nb rfl) (by rintro _ ⟨⟩))) ?_
        refine AL.go (OpR.plain rfl (r_assign rfl (nb rfl) (by rintro _ ⟨⟩))) ?_
        refine AL.nil ?_
        refine thenN ?_
        refine AW.ret ?_
        refine fin_id (.inr rfl) (ends_of rfl (.tmp rfl .nil)) ?_ .nil rfl rfl rfl rfl
        simp only [retA]
        refine A.le_of_eq ?_
        have e : i = q.frm.length := by omega
        subst e
        unfold queryM
        first | rw [if_pos (show q.whr.op ≠ 0 by first | assumption | omega)] | rw [if_neg (show ¬ q.whr.op ≠ 0 by first | assumption | omega)]
        first | rw [if_pos (List.eq_nil_of_length_eq_zero (by omega))] | rw [if_neg (by intro hh; have := congrArg List.length hh; simp only [lnn] at this; omega)]
        try simp only [bapp, bnil, bnil0]
    · have h21n := h21; try simp only [dtt, dff, bqi, bqf, bni, bnf, nt1, nf1, nt0, nf0, ne_eq, ilt, ile, rows_length, Int.toNat_natCast, List.length_map] at h21n
      refine AW.skip ?_
      refine thenN ?_
      refine AW.seq ?_
      refine AW.seq ?_
      refine AW.region ?_
      first | refine AL.go (OpR.plain rfl (r_fieldAddr fo_37_3 (by decide) rfl (nb rfl))) ?_ | refine AL.go (OpR.plain rfl (r_fieldAddrp fo_37_3 (by decide) rfl (nb rfl))) ?_
      first | refine AL.go (OpR.plain rfl (r_load ti_25 rfl rfl rfl (nb rfl))) ?_ | refine AL.go (OpR.plain rfl (r_loadp ti_25 rfl rfl (nb rfl))) ?_
      refine AL.go (OpR.plain rfl (r_len un_25 rfl (by first | exact .sl | exact .own | exact .row | exact .nil) (by intro _ h; cases h) (nb rfl) (by rintro _ ⟨⟩))) ?_
      refine AL.go (OpR.plain rfl (r_bin rfl rfl (nb rfl) rfl (run_int_gtr _ _ _))) ?_
      refine AL.nil ?_
      refine thenN ?_
      refine AW.condb rfl (fun h23 => ?_) (fun h23 => ?_)
      · have h23n := h23; try simp only [dtt, dff, bqi, bqf, bni, bnf, nt1, nf1, nt0, nf0, ne_eq, ilt, ile, rows_length, Int.toNat_natCast, List.length_map] at h23n
        refine AW.region ?_
        refine AL.go (OpR.plain rfl (r_move rfl (nb rfl) (by rintro _ ⟨⟩))) ?_
        refine AL.go (OpR.plain rfl (r_bin rfl rfl (nb rfl) rfl (run_str_add _ _ (by first | omega | (simp only [List.length_map, Int.toNat_natCast] at *; omega) | (simp only [ByteArray.size_append, sz1, sz2, sz4, sz6, sz7, sz10, Int.toNat_natCast] at *; omega))))) ?_
        first | refine AL.go (OpR.plain rfl (r_fieldAddr fo_37_3 (by decide) rfl (nb rfl))) ?_ | refine AL.go (OpR.plain rfl (r_fieldAddrp fo_37_3 (by decide) rfl (nb rfl))) ?_
        first | refine AL.go (OpR.plain rfl (r_load ti_25 rfl rfl rfl (nb rfl))) ?_ | refine AL.go (OpR.plain rfl (r_loadp ti_25 rfl rfl (nb rfl))) ?_
        refine AL.go (OpR.plain rfl (r_callFun (rlist_p q.group hQ.gl (fun x hx => (prs_all (hQ.group x hx)).2) hQ.groupS) en_33 rfl rfl rfl rfl (.cons (A.le_refl _) .nil) rfl (nb rfl))) ?_
        refine AL.go (OpR.plain rfl (r_bin rfl rfl (nb rfl) rfl (run_str_add _ _ (by first | omega | (simp only [List.length_map, Int.toNat_natCast] at *; omega) | (simp only [ByteArray.size_append, sz1, sz2, sz4, sz6, sz7, sz10, Int.toNat_natCast] at *; omega))))) ?_
        refine AL.go (OpR.plain rfl (r_assign rfl (nb rfl) (by rintro _ ⟨⟩))) ?_
        refine AL.nil ?_
        refine thenN ?_
        refine AW.seq ?_
        refine AW.region ?_
        refine AL.go (OpR.plain rfl (r_move rfl (nb rfl) (by rintro _ ⟨⟩))) ?_
        refine AL.go (OpR.plain rfl (r_assign rfl (nb rfl) (by rintro _ ⟨⟩))) ?_
        refine AL.nil ?_
        refine thenN ?_
        refine AW.ret ?_
        refine fin_id (.inr rfl) (ends_of rfl (.tmp rfl .nil)) ?_ .nil rfl rfl rfl rfl
        simp only [retA]
        refine A.le_of_eq ?_
        have e : i = q.frm.length := by omega
        subst e
        unfold queryM
        first | rw [if_pos (show q.whr.op ≠ 0 by first | assumption | omega)] | rw [if_neg (show ¬ q.whr.op ≠ 0 by first | assumption | omega)]
        first | rw [if_pos (List.eq_nil_of_length_eq_zero (by omega))] | rw [if_neg (by intro hh; have := congrArg List.length hh; simp only [lnn] at this; omega)]
        try simp only [bapp, bnil, bnil0]
      · have h23n := h23; try simp only [dtt, dff, bqi, bqf, bni, bnf, nt1, nf1, nt0, nf0, ne_eq, ilt, ile, rows_length, Int.toNat_natCast, List.length_map] at h23n
        refine AW.skip ?_
        refine thenN ?_
        refine AW.seq ?_
        refine AW.region ?_
        refine AL.go (OpR.plain rfl (r_move rfl (nb rfl) (by rintro _ ⟨⟩))) ?_
        refine AL.go (OpR.plain rfl (r_assign rfl (nb rfl) (by rintro _ ⟨⟩))) ?_
        refine AL.nil ?_
        refine thenN ?_
        refine AW.ret ?_
        refine fin_id (.inr rfl) (ends_of rfl (.tmp rfl .nil)) ?_ .nil rfl rfl rfl rfl
        simp only [retA]
        refine A.le_of_eq ?_
        have e : i = q.frm.length := by omega
        subst e
        unfold queryM
        first | rw [if_pos (show q.whr.op ≠ 0 by first | assumption | omega)] | rw [if_neg (show ¬ q.whr.op ≠ 0 by first | assumption | omega)]
        first | rw [if_pos (List.eq_nil_of_length_eq_zero (by omega))] | rw [if_neg (by intro hh; have := congrArg List.length hh; simp only [lnn] at this; omega)]
        try simp only [bapp, bnil, bnil0]

end Go.Par
