import Derived.Test.YtihcfphmikebgaaDoorPrt21
namespace Go.Par
open Go Go.Am Go.Proofs Go.RowKit
set_option linter.unusedVariables false
set_option linter.unusedSimpArgs false

/-! Sizes -/
theorem sz1 (a : UInt8) : (⟨#[a]⟩ : ByteArray).size = 1 := rfl
theorem sz2 (a b : UInt8) : (⟨#[a, b]⟩ : ByteArray).size = 2 := rfl
theorem sz4 (a b c d : UInt8) : (⟨#[a, b, c, d]⟩ : ByteArray).size = 4 := rfl
theorem sz8 (a b c d e f g h : UInt8) : (⟨#[a, b, c, d, e, f, g, h]⟩ : ByteArray).size = 8 := rfl
theorem sz12 (a b c d e f g h i j k l : UInt8) : (⟨#[a, b, c, d, e, f, g, h, i, j, k, l]⟩ : ByteArray).size = 12 := rfl
/-- What the program prints of an expression is what is said. -/
abbrev Prs (e : Ex) : Prop := Am.Spec Tryd.prog 9 [exA e] [(90, pow)] (A.val (.string e.pr)) [(90, pow)]
abbrev RPrs (e : Ex) : Prop := Am.Fun Tryd.prog 13 [exA e] (A.val (.string e.pr))
theorem recs_of {op : Int} (h : 1 ≤ op ∧ op ≤ 14 ∨ 18 ≤ op ∧ op ≤ 21) : recs op = true := by simpa [recs] using h

theorem en_16 : enters Tryd.prog 16 = true := by kernel_rfl
theorem en_18 : enters Tryd.prog 18 = true := by kernel_rfl
theorem en_26 : enters Tryd.prog 26 = true := by kernel_rfl
theorem en_27 : enters Tryd.prog 27 = true := by kernel_rfl
theorem en_28 : enters Tryd.prog 28 = true := by kernel_rfl
theorem en_34 : enters Tryd.prog 34 = true := by kernel_rfl
theorem en_35 : enters Tryd.prog 35 = true := by kernel_rfl
theorem en_36 : enters Tryd.prog 36 = true := by kernel_rfl
theorem en_37 : enters Tryd.prog 37 = true := by kernel_rfl
theorem en_50 : enters Tryd.prog 50 = true := by kernel_rfl
theorem en_9 : enters Tryd.prog 9 = true := by kernel_rfl
theorem fo_24_0 : fieldOf Tryd.prog 24 0 = some (0, 1, false) := by kernel_rfl
theorem fo_24_1 : fieldOf Tryd.prog 24 1 = some (1, 1, false) := by kernel_rfl
theorem fo_24_2 : fieldOf Tryd.prog 24 2 = some (2, 1, false) := by kernel_rfl
theorem fo_27_1 : fieldOf Tryd.prog 27 1 = some (1, 1, false) := by kernel_rfl
theorem fo_27_2 : fieldOf Tryd.prog 27 2 = some (2, 1, false) := by kernel_rfl
theorem fo_27_5 : fieldOf Tryd.prog 27 5 = some (5, 3, true) := by kernel_rfl

theorem val_p (v : Val) (h0 : -9223372036854775808 ≤ v.i) (hN : v.i ≤ 9223372036854775807) (hs : v.s.size ≤ 1000000000) : Am.Spec Tryd.prog 18 [valA v] [(90, pow)] (A.val (.string (valM v))) [(90, pow)] := by
  refine spec_ofN (n := 17) Tryd.func18 rfl rfl (nb rfl) ?_
  show AW _ _ (⟨[(0, valA v)], [(90, pow)], []⟩ : St) _
  refine AW.seq ?_
  refine AW.region ?_
  refine AL.go (OpR.plain rfl (r_box 101 rfl rfl rfl (nb rfl) (by rintro _ ⟨⟩))) ?_
  refine AL.go (OpR.plain rfl (r_assign rfl (nb rfl) (by rintro _ ⟨⟩; rfl))) ?_
  refine AL.nil ?_
  refine thenN ?_
  refine AW.seq ?_
  refine AW.seq ?_
  refine AW.region ?_
  first | refine AL.go (OpR.plain rfl (r_fieldAddr fo_24_0 (by decide) rfl (nb rfl))) ?_ | refine AL.go (OpR.plain rfl (r_fieldAddrp fo_24_0 (by decide) rfl (nb rfl))) ?_
  first | refine AL.go (OpR.plain rfl (r_load ti_3 rfl rfl rfl (nb rfl))) ?_ | refine AL.go (OpR.plain rfl (r_loadp ti_3 rfl rfl (nb rfl))) ?_
  refine AL.nil ?_
  refine thenN ?_
  refine AW.block ?_
  refine AW.seq ?_
  refine AW.region ?_
  refine AL.go (OpR.plain rfl (r_bin rfl rfl (nb rfl) rfl (run_int_eql _ _ _))) ?_
  refine AL.go (OpR.plain rfl (r_assign rfl (nb rfl) (by rintro _ ⟨⟩))) ?_
  refine AL.nil ?_
  refine thenN ?_
  refine AW.condb rfl (fun h1 => ?_) (fun h1 => ?_)
  · have h1n := h1; try simp only [dtt, dff, bqi, bqf, bni, bnf, nt1, nf1, nt0, nf0, ne_eq, ilt, ile] at h1n
    refine AW.seq ?_
    refine AW.region ?_
    refine AL.go (OpR.plain rfl (r_assign rfl (nb rfl) (by rintro _ ⟨⟩; rfl))) ?_
    refine AL.nil ?_
    refine thenN ?_
    refine AW.ret ?_
    refine inbR ?_
    refine thenR ?_
    refine fin_id (.inr rfl) (ends_of rfl (.tmp rfl .nil)) ?_ (.cons rfl (Ob.le_refl _) .nil) rfl rfl rfl rfl
    simp only [retA]
    refine A.le_of_eq ?_
    unfold valM
    repeat (first | rw [if_pos (by assumption)] | rw [if_neg (by assumption)])
  · have h1n := h1; try simp only [dtt, dff, bqi, bqf, bni, bnf, nt1, nf1, nt0, nf0, ne_eq, ilt, ile] at h1n
    refine AW.seq ?_
    refine AW.region ?_
    refine AL.go (OpR.plain rfl (r_bin rfl rfl (nb rfl) rfl (run_int_eql _ _ _))) ?_
    refine AL.go (OpR.plain rfl (r_assign rfl (nb rfl) (by rintro _ ⟨⟩))) ?_
    refine AL.nil ?_
    refine thenN ?_
    refine AW.condb rfl (fun h2 => ?_) (fun h2 => ?_)
    · have h2n := h2; try simp only [dtt, dff, bqi, bqf, bni, bnf, nt1, nf1, nt0, nf0, ne_eq, ilt, ile] at h2n
      refine AW.seq ?_
      refine AW.region ?_
      first | refine AL.go (OpR.plain rfl (r_fieldAddr fo_24_1 (by decide) rfl (nb rfl))) ?_ | refine AL.go (OpR.plain rfl (r_fieldAddrp fo_24_1 (by decide) rfl (nb rfl))) ?_
      first | refine AL.go (OpR.plain rfl (r_load ti_3 rfl rfl rfl (nb rfl))) ?_ | refine AL.go (OpR.plain rfl (r_loadp ti_3 rfl rfl (nb rfl))) ?_
      refine AL.go (OpR.plain rfl (r_callId (itoa_s _ (by omega) (by omega)) en_34 rfl rfl rfl rfl (.cons (A.le_refl _) .nil) rfl (.cons rfl .nil) rfl rfl rfl (nb rfl))) ?_
      refine AL.go (OpR.plain rfl (r_assign rfl (nb rfl) (by rintro _ ⟨⟩))) ?_
      refine AL.nil ?_
      refine thenN ?_
      refine AW.ret ?_
      refine inbR ?_
      refine thenR ?_
      refine fin_id (.inr rfl) (ends_of rfl (.tmp rfl .nil)) ?_ (.cons rfl (Ob.le_refl _) .nil) rfl rfl rfl rfl
      simp only [retA]
      refine A.le_of_eq ?_
      unfold valM
      repeat (first | rw [if_pos (by assumption)] | rw [if_neg (by assumption)])
    · have h2n := h2; try simp only [dtt, dff, bqi, bqf, bni, bnf, nt1, nf1, nt0, nf0, ne_eq, ilt, ile] at h2n
      refine AW.seq ?_
      refine AW.region ?_
      refine AL.go (OpR.plain rfl (r_bin rfl rfl (nb rfl) rfl (run_int_eql _ _ _))) ?_
      refine AL.go (OpR.plain rfl (r_assign rfl (nb rfl) (by rintro _ ⟨⟩))) ?_
      refine AL.nil ?_
      refine thenN ?_
      refine AW.condb rfl (fun h3 => ?_) (fun h3 => ?_)
      · have h3n := h3; try simp only [dtt, dff, bqi, bqf, bni, bnf, nt1, nf1, nt0, nf0, ne_eq, ilt, ile] at h3n
        refine AW.seq ?_
        refine AW.region ?_
        first | refine AL.go (OpR.plain rfl (r_fieldAddr fo_24_2 (by decide) rfl (nb rfl))) ?_ | refine AL.go (OpR.plain rfl (r_fieldAddrp fo_24_2 (by decide) rfl (nb rfl))) ?_
        first | refine AL.go (OpR.plain rfl (r_load ti_9 rfl rfl rfl (nb rfl))) ?_ | refine AL.go (OpR.plain rfl (r_loadp ti_9 rfl rfl (nb rfl))) ?_
        refine AL.go (OpR.plain rfl (r_callFun (quote_s _ (by omega)) en_35 rfl rfl rfl rfl (.cons (A.le_refl _) .nil) rfl (nb rfl))) ?_
        refine AL.go (OpR.plain rfl (r_assign rfl (nb rfl) (by rintro _ ⟨⟩))) ?_
        refine AL.nil ?_
        refine thenN ?_
        refine AW.ret ?_
        refine inbR ?_
        refine thenR ?_
        refine fin_id (.inr rfl) (ends_of rfl (.tmp rfl .nil)) ?_ (.cons rfl (Ob.le_refl _) .nil) rfl rfl rfl rfl
        simp only [retA]
        refine A.le_of_eq ?_
        unfold valM
        repeat (first | rw [if_pos (by assumption)] | rw [if_neg (by assumption)])
      · have h3n := h3; try simp only [dtt, dff, bqi, bqf, bni, bnf, nt1, nf1, nt0, nf0, ne_eq, ilt, ile] at h3n
        refine AW.skip ?_
        refine inbN ?_
        refine thenN ?_
        refine AW.seq ?_
        refine AW.region ?_
        refine AL.go (OpR.plain rfl (r_assign rfl (nb rfl) (by rintro _ ⟨⟩; rfl))) ?_
        refine AL.nil ?_
        refine thenN ?_
        refine AW.ret ?_
        refine fin_id (.inr rfl) (ends_of rfl (.tmp rfl .nil)) ?_ (.cons rfl (Ob.le_refl _) .nil) rfl rfl rfl rfl
        simp only [retA]
        refine A.le_of_eq ?_
        unfold valM
        repeat (first | rw [if_pos (by assumption)] | rw [if_neg (by assumption)])

theorem at_s (x : Ex) (lvl : Int) (hx : Prs x) (hs : x.pr.size ≤ 1000000000) : Am.Spec Tryd.prog 26 [exA x, A.i64 lvl] [(90, pow)] (A.val (.string (parM lvl x x.pr))) [(90, pow)] := by
  refine spec_ofN (n := 16) Tryd.func26 rfl rfl (nb rfl) ?_
  show AW _ _ (⟨[(0, exA x), (1, A.i64 lvl)], [(90, pow)], []⟩ : St) _
  refine AW.seq ?_
  refine AW.region ?_
  refine AL.go (OpR.plain rfl (r_box 101 rfl rfl rfl (nb rfl) (by rintro _ ⟨⟩))) ?_
  refine AL.go (OpR.plain rfl (r_assign rfl (nb rfl) (by rintro _ ⟨⟩; rfl))) ?_
  refine AL.nil ?_
  refine thenN ?_
  refine AW.seq ?_
  refine AW.region ?_
  first | refine AL.go (OpR.plain rfl (r_load ti_27 rfl rfl (by simp only [loaded, mpc, mpn, if_true, ler, tks, tkz, tkn, dps, dpz, cap, nap, apn, lnc, lnn, zad, Nat.reduceAdd, adz]; rfl) (nb rfl))) ?_ | refine AL.go (OpR.plain rfl (r_loadp ti_27 rfl (by simp only [loaded, mpc, mpn, if_true, ler, tks, tkz, tkn, dps, dpz, cap, nap, apn, lnc, lnn, zad, Nat.reduceAdd, adz]; rfl) (nb rfl))) ?_
  refine AL.go (OpR.plain rfl (r_callId (hx) en_9 rfl rfl rfl rfl (.cons (A.le_refl _) .nil) rfl (.cons rfl .nil) rfl rfl rfl (nb rfl))) ?_
  refine AL.go (OpR.plain rfl (r_assign rfl (nb rfl) (by rintro _ ⟨⟩))) ?_
  refine AL.nil ?_
  refine thenN ?_
  refine AW.seq ?_
  refine AW.seq ?_
  refine AW.region ?_
  first | refine AL.go (OpR.plain rfl (r_load ti_27 rfl rfl (by simp only [loaded, mpc, mpn, if_true, ler, tks, tkz, tkn, dps, dpz, cap, nap, apn, lnc, lnn, zad, Nat.reduceAdd, adz]; rfl) (nb rfl))) ?_ | refine AL.go (OpR.plain rfl (r_loadp ti_27 rfl (by simp only [loaded, mpc, mpn, if_true, ler, tks, tkz, tkn, dps, dpz, cap, nap, apn, lnc, lnn, zad, Nat.reduceAdd, adz]; rfl) (nb rfl))) ?_
  refine AL.go (OpR.plain rfl (r_callFun (level_s _) en_50 rfl rfl rfl rfl (.cons (A.le_refl _) .nil) rfl (nb rfl))) ?_
  refine AL.go (OpR.plain rfl (r_move rfl (nb rfl) (by rintro _ ⟨⟩))) ?_
  refine AL.go (OpR.plain rfl (r_bin rfl rfl (nb rfl) rfl (run_int_lss _ _ _))) ?_
  refine AL.nil ?_
  refine thenN ?_
  refine AW.condb rfl (fun h1 => ?_) (fun h1 => ?_)
  · have h1n := h1; try simp only [dtt, dff, bqi, bqf, bni, bnf, nt1, nf1, nt0, nf0, ne_eq, ilt, ile] at h1n
    refine AW.seq ?_
    refine AW.region ?_
    refine AL.go (OpR.plain rfl (r_move rfl (nb rfl) (by rintro _ ⟨⟩))) ?_
    refine AL.go (OpR.plain rfl (r_bin rfl rfl (nb rfl) rfl (run_str_add _ _ (by first | omega | (simp only [ByteArray.size_append, sz1, sz2, sz4, sz8, sz12] at *; omega))))) ?_
    refine AL.go (OpR.plain rfl (r_bin rfl rfl (nb rfl) rfl (run_str_add _ _ (by first | omega | (simp only [ByteArray.size_append, sz1, sz2, sz4, sz8, sz12] at *; omega))))) ?_
    refine AL.go (OpR.plain rfl (r_assign rfl (nb rfl) (by rintro _ ⟨⟩))) ?_
    refine AL.nil ?_
    refine thenN ?_
    refine AW.ret ?_
    refine thenR ?_
    refine fin_id (.inr rfl) (ends_of rfl (.tmp rfl .nil)) ?_ (.cons rfl (Ob.le_refl _) .nil) rfl rfl rfl rfl
    simp only [retA]
    refine A.le_of_eq ?_
    unfold parM
    first | rw [if_pos (by assumption)] | rw [if_neg (by omega)]
  · have h1n := h1; try simp only [dtt, dff, bqi, bqf, bni, bnf, nt1, nf1, nt0, nf0, ne_eq, ilt, ile] at h1n
    refine AW.skip ?_
    refine thenN ?_
    refine AW.seq ?_
    refine AW.region ?_
    refine AL.go (OpR.plain rfl (r_move rfl (nb rfl) (by rintro _ ⟨⟩))) ?_
    refine AL.go (OpR.plain rfl (r_assign rfl (nb rfl) (by rintro _ ⟨⟩))) ?_
    refine AL.nil ?_
    refine thenN ?_
    refine AW.ret ?_
    refine fin_id (.inr rfl) (ends_of rfl (.tmp rfl .nil)) ?_ (.cons rfl (Ob.le_refl _) .nil) rfl rfl rfl rfl
    simp only [retA]
    refine A.le_of_eq ?_
    unfold parM
    first | rw [if_pos (by assumption)] | rw [if_neg (by omega)]

theorem two_p (e : Ex) (hP : PrOk e) (hop : e.op ≠ 12) (hx : Prs (e.part 0)) (hy : Prs (e.part 1)) : Am.Spec Tryd.prog 28 [exA e] [(90, pow)] (A.val (.string (parM (asksM e.op 0) (e.part 0) (e.part 0).pr ++ ⟨#[32]⟩ ++ opM e.op ++ ⟨#[32]⟩ ++ parM (asksM e.op 1) (e.part 1) (e.part 1).pr))) [(90, pow)] := by
  refine spec_ofN (n := 31) Tryd.func28 rfl rfl (nb rfl) ?_
  show AW _ _ (⟨[(0, exA e)], [(90, pow)], []⟩ : St) _
  have hPx := hP.x
  have hPy := hP.y
  have hOp := opM_size e.op
  have hA := fun l => parM_size l (e.part 0) (e.part 0).pr
  have hB := fun l => parM_size l (e.part 1) (e.part 1).pr
  refine AW.seq ?_
  refine AW.region ?_
  refine AL.go (OpR.plain rfl (r_box 101 rfl rfl rfl (nb rfl) (by rintro _ ⟨⟩))) ?_
  refine AL.go (OpR.plain rfl (r_assign rfl (nb rfl) (by rintro _ ⟨⟩; rfl))) ?_
  refine AL.nil ?_
  refine thenN ?_
  refine AW.seq ?_
  refine AW.region ?_
  refine AL.go (OpR.plain rfl (r_assign rfl (nb rfl) (by rintro _ ⟨⟩; rfl))) ?_
  refine AL.go (OpR.plain rfl (r_assign rfl (nb rfl) (by rintro _ ⟨⟩; rfl))) ?_
  refine AL.nil ?_
  refine thenN ?_
  refine AW.seq ?_
  refine AW.seq ?_
  refine AW.region ?_
  first | refine AL.go (OpR.plain rfl (r_fieldAddr fo_27_0 (by decide) rfl (nb rfl))) ?_ | refine AL.go (OpR.plain rfl (r_fieldAddrp fo_27_0 (by decide) rfl (nb rfl))) ?_
  first | refine AL.go (OpR.plain rfl (r_load ti_3 rfl rfl rfl (nb rfl))) ?_ | refine AL.go (OpR.plain rfl (r_loadp ti_3 rfl rfl (nb rfl))) ?_
  refine AL.nil ?_
  refine thenN ?_
  refine AW.block ?_
  refine AW.seq ?_
  refine AW.region ?_
  refine AL.go (OpR.plain rfl (r_bin rfl rfl (nb rfl) rfl (run_int_eql _ _ _))) ?_
  refine AL.go (OpR.plain rfl (r_assign rfl (nb rfl) (by rintro _ ⟨⟩))) ?_
  refine AL.nil ?_
  refine thenN ?_
  refine AW.condb rfl (fun h1 => ?_) (fun h1 => ?_)
  · have h1n := h1; try simp only [dtt, dff, bqi, bqf, bni, bnf, nt1, nf1, nt0, nf0, ne_eq, ilt, ile] at h1n
    refine AW.region ?_
    refine AL.go (OpR.plain rfl (r_assign rfl (nb rfl) (by rintro _ ⟨⟩; rfl))) ?_
    refine AL.go (OpR.plain rfl (r_assign rfl (nb rfl) (by rintro _ ⟨⟩; rfl))) ?_
    refine AL.nil ?_
    refine inbN ?_
    refine thenN ?_
    refine AW.seq ?_
    refine AW.draw ?_
    first | refine DW.go (OpR.plain rfl (r_load ti_27 rfl rfl (by simp only [loaded, mpc, mpn, if_true, ler, tks, tkz, tkn, dps, dpz, cap, nap, apn, lnc, lnn, zad, Nat.reduceAdd, adz]; rfl) (nb rfl))) ?_ | refine DW.go (OpR.plain rfl (r_loadp ti_27 rfl (by simp only [loaded, mpc, mpn, if_true, ler, tks, tkz, tkn, dps, dpz, cap, nap, apn, lnc, lnn, zad, Nat.reduceAdd, adz]; rfl) (nb rfl))) ?_
    refine DW.go (OpR.plain rfl (r_callFun (part_s _ _ (by omega)) en_27 rfl rfl rfl rfl (.cons (A.le_refl _) (.cons (A.le_refl _) .nil)) rfl (nb rfl))) ?_
    refine DW.go (OpR.plain rfl (r_move rfl (nb rfl) (by rintro _ ⟨⟩))) ?_
    refine DW.go (OpR.plain rfl (r_callId (at_s (e.part 0) _ hx hP.x) en_26 rfl rfl rfl rfl (.cons (A.le_refl _) (.cons (A.le_refl _) .nil)) rfl (.cons rfl .nil) rfl rfl rfl (nb rfl))) ?_
    refine DW.go (OpR.plain rfl (r_bin rfl rfl (nb rfl) rfl (run_str_add _ _ (by first | omega | (simp only [ByteArray.size_append, sz1]; have hA5 := hA 5; have hA1 := hA 1; have hA2 := hA 2; have hA6 := hA 6; have hB5 := hB 5; have hB2 := hB 2; have hB3 := hB 3; have hB6 := hB 6; have hB7 := hB 7; omega))))) ?_
    first | refine DW.go (OpR.plain rfl (r_fieldAddr fo_27_0 (by decide) rfl (nb rfl))) ?_ | refine DW.go (OpR.plain rfl (r_fieldAddrp fo_27_0 (by decide) rfl (nb rfl))) ?_
    first | refine DW.go (OpR.plain rfl (r_load ti_3 rfl rfl rfl (nb rfl))) ?_ | refine DW.go (OpR.plain rfl (r_loadp ti_3 rfl rfl (nb rfl))) ?_
    refine DW.go (OpR.plain rfl (r_callFun (op_s _) en_16 rfl rfl rfl rfl (.cons (A.le_refl _) .nil) rfl (nb rfl))) ?_
    refine DW.go (OpR.plain rfl (r_bin rfl rfl (nb rfl) rfl (run_str_add _ _ (by first | omega | (simp only [ByteArray.size_append, sz1]; have hA5 := hA 5; have hA1 := hA 1; have hA2 := hA 2; have hA6 := hA 6; have hB5 := hB 5; have hB2 := hB 2; have hB3 := hB 3; have hB6 := hB 6; have hB7 := hB 7; omega))))) ?_
    refine DW.go (OpR.plain rfl (r_bin rfl rfl (nb rfl) rfl (run_str_add _ _ (by first | omega | (simp only [ByteArray.size_append, sz1]; have hA5 := hA 5; have hA1 := hA 1; have hA2 := hA 2; have hA6 := hA 6; have hB5 := hB 5; have hB2 := hB 2; have hB3 := hB 3; have hB6 := hB 6; have hB7 := hB 7; omega))))) ?_
    first | refine DW.go (OpR.plain rfl (r_load ti_27 rfl rfl (by simp only [loaded, mpc, mpn, if_true, ler, tks, tkz, tkn, dps, dpz, cap, nap, apn, lnc, lnn, zad, Nat.reduceAdd, adz]; rfl) (nb rfl))) ?_ | refine DW.go (OpR.plain rfl (r_loadp ti_27 rfl (by simp only [loaded, mpc, mpn, if_true, ler, tks, tkz, tkn, dps, dpz, cap, nap, apn, lnc, lnn, zad, Nat.reduceAdd, adz]; rfl) (nb rfl))) ?_
    refine DW.go (OpR.plain rfl (r_callFun (part_s _ _ (by omega)) en_27 rfl rfl rfl rfl (.cons (A.le_refl _) (.cons (A.le_refl _) .nil)) rfl (nb rfl))) ?_
    refine DW.go (OpR.plain rfl (r_move rfl (nb rfl) (by rintro _ ⟨⟩))) ?_
    refine DW.go (OpR.plain rfl (r_callId (at_s (e.part 1) _ hy hP.y) en_26 rfl rfl rfl rfl (.cons (A.le_refl _) (.cons (A.le_refl _) .nil)) rfl (.cons rfl .nil) rfl rfl rfl (nb rfl))) ?_
    refine DW.go (OpR.plain rfl (r_bin rfl rfl (nb rfl) rfl (run_str_add _ _ (by first | omega | (simp only [ByteArray.size_append, sz1]; have hA5 := hA 5; have hA1 := hA 1; have hA2 := hA 2; have hA6 := hA 6; have hB5 := hB 5; have hB2 := hB 2; have hB3 := hB 3; have hB6 := hB 6; have hB7 := hB 7; omega))))) ?_
    refine DW.go (OpR.plain rfl (r_assign rfl (nb rfl) (by rintro _ ⟨⟩))) ?_
    refine DW.fin mixed (by kernel_rfl) (by kernel_rfl) ?_
    refine thenN ?_
    refine AW.ret ?_
    refine fin_id (.inr rfl) (ends_of rfl (.tmp rfl .nil)) ?_ (.cons rfl (Ob.le_refl _) .nil) rfl rfl rfl rfl
    simp only [retA]
    refine A.le_of_eq ?_
    unfold asksM
    simp_all
  · have h1n := h1; try simp only [dtt, dff, bqi, bqf, bni, bnf, nt1, nf1, nt0, nf0, ne_eq, ilt, ile] at h1n
    refine AW.seq ?_
    refine AW.region ?_
    refine AL.go (OpR.plain rfl (r_bin rfl rfl (nb rfl) rfl (run_int_eql _ _ _))) ?_
    refine AL.go (OpR.plain rfl (r_assign rfl (nb rfl) (by rintro _ ⟨⟩))) ?_
    refine AL.nil ?_
    refine thenN ?_
    refine AW.condb rfl (fun h2 => ?_) (fun h2 => ?_)
    · have h2n := h2; try simp only [dtt, dff, bqi, bqf, bni, bnf, nt1, nf1, nt0, nf0, ne_eq, ilt, ile] at h2n
      refine AW.region ?_
      refine AL.go (OpR.plain rfl (r_assign rfl (nb rfl) (by rintro _ ⟨⟩; rfl))) ?_
      refine AL.go (OpR.plain rfl (r_assign rfl (nb rfl) (by rintro _ ⟨⟩; rfl))) ?_
      refine AL.nil ?_
      refine inbN ?_
      refine thenN ?_
      refine AW.seq ?_
      refine AW.draw ?_
      first | refine DW.go (OpR.plain rfl (r_load ti_27 rfl rfl (by simp only [loaded, mpc, mpn, if_true, ler, tks, tkz, tkn, dps, dpz, cap, nap, apn, lnc, lnn, zad, Nat.reduceAdd, adz]; rfl) (nb rfl))) ?_ | refine DW.go (OpR.plain rfl (r_loadp ti_27 rfl (by simp only [loaded, mpc, mpn, if_true, ler, tks, tkz, tkn, dps, dpz, cap, nap, apn, lnc, lnn, zad, Nat.reduceAdd, adz]; rfl) (nb rfl))) ?_
      refine DW.go (OpR.plain rfl (r_callFun (part_s _ _ (by omega)) en_27 rfl rfl rfl rfl (.cons (A.le_refl _) (.cons (A.le_refl _) .nil)) rfl (nb rfl))) ?_
      refine DW.go (OpR.plain rfl (r_move rfl (nb rfl) (by rintro _ ⟨⟩))) ?_
      refine DW.go (OpR.plain rfl (r_callId (at_s (e.part 0) _ hx hP.x) en_26 rfl rfl rfl rfl (.cons (A.le_refl _) (.cons (A.le_refl _) .nil)) rfl (.cons rfl .nil) rfl rfl rfl (nb rfl))) ?_
      refine DW.go (OpR.plain rfl (r_bin rfl rfl (nb rfl) rfl (run_str_add _ _ (by first | omega | (simp only [ByteArray.size_append, sz1]; have hA5 := hA 5; have hA1 := hA 1; have hA2 := hA 2; have hA6 := hA 6; have hB5 := hB 5; have hB2 := hB 2; have hB3 := hB 3; have hB6 := hB 6; have hB7 := hB 7; omega))))) ?_
      first | refine DW.go (OpR.plain rfl (r_fieldAddr fo_27_0 (by decide) rfl (nb rfl))) ?_ | refine DW.go (OpR.plain rfl (r_fieldAddrp fo_27_0 (by decide) rfl (nb rfl))) ?_
      first | refine DW.go (OpR.plain rfl (r_load ti_3 rfl rfl rfl (nb rfl))) ?_ | refine DW.go (OpR.plain rfl (r_loadp ti_3 rfl rfl (nb rfl))) ?_
      refine DW.go (OpR.plain rfl (r_callFun (op_s _) en_16 rfl rfl rfl rfl (.cons (A.le_refl _) .nil) rfl (nb rfl))) ?_
      refine DW.go (OpR.plain rfl (r_bin rfl rfl (nb rfl) rfl (run_str_add _ _ (by first | omega | (simp only [ByteArray.size_append, sz1]; have hA5 := hA 5; have hA1 := hA 1; have hA2 := hA 2; have hA6 := hA 6; have hB5 := hB 5; have hB2 := hB 2; have hB3 := hB 3; have hB6 := hB 6; have hB7 := hB 7; omega))))) ?_
      refine DW.go (OpR.plain rfl (r_bin rfl rfl (nb rfl) rfl (run_str_add _ _ (by first | omega | (simp only [ByteArray.size_append, sz1]; have hA5 := hA 5; have hA1 := hA 1; have hA2 := hA 2; have hA6 := hA 6; have hB5 := hB 5; have hB2 := hB 2; have hB3 := hB 3; have hB6 := hB 6; have hB7 := hB 7; omega))))) ?_
      first | refine DW.go (OpR.plain rfl (r_load ti_27 rfl rfl (by simp only [loaded, mpc, mpn, if_true, ler, tks, tkz, tkn, dps, dpz, cap, nap, apn, lnc, lnn, zad, Nat.reduceAdd, adz]; rfl) (nb rfl))) ?_ | refine DW.go (OpR.plain rfl (r_loadp ti_27 rfl (by simp only [loaded, mpc, mpn, if_true, ler, tks, tkz, tkn, dps, dpz, cap, nap, apn, lnc, lnn, zad, Nat.reduceAdd, adz]; rfl) (nb rfl))) ?_
      refine DW.go (OpR.plain rfl (r_callFun (part_s _ _ (by omega)) en_27 rfl rfl rfl rfl (.cons (A.le_refl _) (.cons (A.le_refl _) .nil)) rfl (nb rfl))) ?_
      refine DW.go (OpR.plain rfl (r_move rfl (nb rfl) (by rintro _ ⟨⟩))) ?_
      refine DW.go (OpR.plain rfl (r_callId (at_s (e.part 1) _ hy hP.y) en_26 rfl rfl rfl rfl (.cons (A.le_refl _) (.cons (A.le_refl _) .nil)) rfl (.cons rfl .nil) rfl rfl rfl (nb rfl))) ?_
      refine DW.go (OpR.plain rfl (r_bin rfl rfl (nb rfl) rfl (run_str_add _ _ (by first | omega | (simp only [ByteArray.size_append, sz1]; have hA5 := hA 5; have hA1 := hA 1; have hA2 := hA 2; have hA6 := hA 6; have hB5 := hB 5; have hB2 := hB 2; have hB3 := hB 3; have hB6 := hB 6; have hB7 := hB 7; omega))))) ?_
      refine DW.go (OpR.plain rfl (r_assign rfl (nb rfl) (by rintro _ ⟨⟩))) ?_
      refine DW.fin mixed (by kernel_rfl) (by kernel_rfl) ?_
      refine thenN ?_
      refine AW.ret ?_
      refine fin_id (.inr rfl) (ends_of rfl (.tmp rfl .nil)) ?_ (.cons rfl (Ob.le_refl _) .nil) rfl rfl rfl rfl
      simp only [retA]
      refine A.le_of_eq ?_
      unfold asksM
      simp_all
    · have h2n := h2; try simp only [dtt, dff, bqi, bqf, bni, bnf, nt1, nf1, nt0, nf0, ne_eq, ilt, ile] at h2n
      refine AW.seq ?_
      refine AW.seq ?_
      refine AW.region ?_
      refine AL.go (OpR.plain rfl (r_bin rfl rfl (nb rfl) rfl (run_int_eql _ _ _))) ?_
      refine AL.go (OpR.plain rfl (r_assign rfl (nb rfl) (by rintro _ ⟨⟩))) ?_
      refine AL.nil ?_
      refine thenN ?_
      refine AW.condb rfl (fun h3 => ?_) (fun h3 => ?_)
      · have h3n := h3; try simp only [dtt, dff, bqi, bqf, bni, bnf, nt1, nf1, nt0, nf0, ne_eq, ilt, ile] at h3n
        refine AW.skip ?_
        refine thenN ?_
        refine AW.condT rfl (h3) ?_
        refine AW.region ?_
        refine AL.go (OpR.plain rfl (r_assign rfl (nb rfl) (by rintro _ ⟨⟩; rfl))) ?_
        refine AL.nil ?_
        refine inbN ?_
        refine thenN ?_
        refine AW.seq ?_
        refine AW.draw ?_
        first | refine DW.go (OpR.plain rfl (r_load ti_27 rfl rfl (by simp only [loaded, mpc, mpn, if_true, ler, tks, tkz, tkn, dps, dpz, cap, nap, apn, lnc, lnn, zad, Nat.reduceAdd, adz]; rfl) (nb rfl))) ?_ | refine DW.go (OpR.plain rfl (r_loadp ti_27 rfl (by simp only [loaded, mpc, mpn, if_true, ler, tks, tkz, tkn, dps, dpz, cap, nap, apn, lnc, lnn, zad, Nat.reduceAdd, adz]; rfl) (nb rfl))) ?_
        refine DW.go (OpR.plain rfl (r_callFun (part_s _ _ (by omega)) en_27 rfl rfl rfl rfl (.cons (A.le_refl _) (.cons (A.le_refl _) .nil)) rfl (nb rfl))) ?_
        refine DW.go (OpR.plain rfl (r_move rfl (nb rfl) (by rintro _ ⟨⟩))) ?_
        refine DW.go (OpR.plain rfl (r_callId (at_s (e.part 0) _ hx hP.x) en_26 rfl rfl rfl rfl (.cons (A.le_refl _) (.cons (A.le_refl _) .nil)) rfl (.cons rfl .nil) rfl rfl rfl (nb rfl))) ?_
        refine DW.go (OpR.plain rfl (r_bin rfl rfl (nb rfl) rfl (run_str_add _ _ (by first | omega | (simp only [ByteArray.size_append, sz1]; have hA5 := hA 5; have hA1 := hA 1; have hA2 := hA 2; have hA6 := hA 6; have hB5 := hB 5; have hB2 := hB 2; have hB3 := hB 3; have hB6 := hB 6; have hB7 := hB 7; omega))))) ?_
        first | refine DW.go (OpR.plain rfl (r_fieldAddr fo_27_0 (by decide) rfl (nb rfl))) ?_ | refine DW.go (OpR.plain rfl (r_fieldAddrp fo_27_0 (by decide) rfl (nb rfl))) ?_
        first | refine DW.go (OpR.plain rfl (r_load ti_3 rfl rfl rfl (nb rfl))) ?_ | refine DW.go (OpR.plain rfl (r_loadp ti_3 rfl rfl (nb rfl))) ?_
        refine DW.go (OpR.plain rfl (r_callFun (op_s _) en_16 rfl rfl rfl rfl (.cons (A.le_refl _) .nil) rfl (nb rfl))) ?_
        refine DW.go (OpR.plain rfl (r_bin rfl rfl (nb rfl) rfl (run_str_add _ _ (by first | omega | (simp only [ByteArray.size_append, sz1]; have hA5 := hA 5; have hA1 := hA 1; have hA2 := hA 2; have hA6 := hA 6; have hB5 := hB 5; have hB2 := hB 2; have hB3 := hB 3; have hB6 := hB 6; have hB7 := hB 7; omega))))) ?_
        refine DW.go (OpR.plain rfl (r_bin rfl rfl (nb rfl) rfl (run_str_add _ _ (by first | omega | (simp only [ByteArray.size_append, sz1]; have hA5 := hA 5; have hA1 := hA 1; have hA2 := hA 2; have hA6 := hA 6; have hB5 := hB 5; have hB2 := hB 2; have hB3 := hB 3; have hB6 := hB 6; have hB7 := hB 7; omega))))) ?_
        first | refine DW.go (OpR.plain rfl (r_load ti_27 rfl rfl (by simp only [loaded, mpc, mpn, if_true, ler, tks, tkz, tkn, dps, dpz, cap, nap, apn, lnc, lnn, zad, Nat.reduceAdd, adz]; rfl) (nb rfl))) ?_ | refine DW.go (OpR.plain rfl (r_loadp ti_27 rfl (by simp only [loaded, mpc, mpn, if_true, ler, tks, tkz, tkn, dps, dpz, cap, nap, apn, lnc, lnn, zad, Nat.reduceAdd, adz]; rfl) (nb rfl))) ?_
        refine DW.go (OpR.plain rfl (r_callFun (part_s _ _ (by omega)) en_27 rfl rfl rfl rfl (.cons (A.le_refl _) (.cons (A.le_refl _) .nil)) rfl (nb rfl))) ?_
        refine DW.go (OpR.plain rfl (r_move rfl (nb rfl) (by rintro _ ⟨⟩))) ?_
        refine DW.go (OpR.plain rfl (r_callId (at_s (e.part 1) _ hy hP.y) en_26 rfl rfl rfl rfl (.cons (A.le_refl _) (.cons (A.le_refl _) .nil)) rfl (.cons rfl .nil) rfl rfl rfl (nb rfl))) ?_
        refine DW.go (OpR.plain rfl (r_bin rfl rfl (nb rfl) rfl (run_str_add _ _ (by first | omega | (simp only [ByteArray.size_append, sz1]; have hA5 := hA 5; have hA1 := hA 1; have hA2 := hA 2; have hA6 := hA 6; have hB5 := hB 5; have hB2 := hB 2; have hB3 := hB 3; have hB6 := hB 6; have hB7 := hB 7; omega))))) ?_
        refine DW.go (OpR.plain rfl (r_assign rfl (nb rfl) (by rintro _ ⟨⟩))) ?_
        refine DW.fin mixed (by kernel_rfl) (by kernel_rfl) ?_
        refine thenN ?_
        refine AW.ret ?_
        refine fin_id (.inr rfl) (ends_of rfl (.tmp rfl .nil)) ?_ (.cons rfl (Ob.le_refl _) .nil) rfl rfl rfl rfl
        simp only [retA]
        refine A.le_of_eq ?_
        unfold asksM
        simp_all
      · have h3n := h3; try simp only [dtt, dff, bqi, bqf, bni, bnf, nt1, nf1, nt0, nf0, ne_eq, ilt, ile] at h3n
        refine AW.region ?_
        refine AL.go (OpR.plain rfl (r_bin rfl rfl (nb rfl) rfl (run_int_eql _ _ _))) ?_
        refine AL.go (OpR.plain rfl (r_assign rfl (nb rfl) (by rintro _ ⟨⟩))) ?_
        refine AL.nil ?_
        refine thenN ?_
        refine AW.condb rfl (fun h4 => ?_) (fun h4 => ?_)
        · have h4n := h4; try simp only [dtt, dff, bqi, bqf, bni, bnf, nt1, nf1, nt0, nf0, ne_eq, ilt, ile] at h4n
          refine AW.region ?_
          refine AL.go (OpR.plain rfl (r_assign rfl (nb rfl) (by rintro _ ⟨⟩; rfl))) ?_
          refine AL.nil ?_
          refine inbN ?_
          refine thenN ?_
          refine AW.seq ?_
          refine AW.draw ?_
          first | refine DW.go (OpR.plain rfl (r_load ti_27 rfl rfl (by simp only [loaded, mpc, mpn, if_true, ler, tks, tkz, tkn, dps, dpz, cap, nap, apn, lnc, lnn, zad, Nat.reduceAdd, adz]; rfl) (nb rfl))) ?_ | refine DW.go (OpR.plain rfl (r_loadp ti_27 rfl (by simp only [loaded, mpc, mpn, if_true, ler, tks, tkz, tkn, dps, dpz, cap, nap, apn, lnc, lnn, zad, Nat.reduceAdd, adz]; rfl) (nb rfl))) ?_
          refine DW.go (OpR.plain rfl (r_callFun (part_s _ _ (by omega)) en_27 rfl rfl rfl rfl (.cons (A.le_refl _) (.cons (A.le_refl _) .nil)) rfl (nb rfl))) ?_
          refine DW.go (OpR.plain rfl (r_move rfl (nb rfl) (by rintro _ ⟨⟩))) ?_
          refine DW.go (OpR.plain rfl (r_callId (at_s (e.part 0) _ hx hP.x) en_26 rfl rfl rfl rfl (.cons (A.le_refl _) (.cons (A.le_refl _) .nil)) rfl (.cons rfl .nil) rfl rfl rfl (nb rfl))) ?_
          refine DW.go (OpR.plain rfl (r_bin rfl rfl (nb rfl) rfl (run_str_add _ _ (by first | omega | (simp only [ByteArray.size_append, sz1]; have hA5 := hA 5; have hA1 := hA 1; have hA2 := hA 2; have hA6 := hA 6; have hB5 := hB 5; have hB2 := hB 2; have hB3 := hB 3; have hB6 := hB 6; have hB7 := hB 7; omega))))) ?_
          first | refine DW.go (OpR.plain rfl (r_fieldAddr fo_27_0 (by decide) rfl (nb rfl))) ?_ | refine DW.go (OpR.plain rfl (r_fieldAddrp fo_27_0 (by decide) rfl (nb rfl))) ?_
          first | refine DW.go (OpR.plain rfl (r_load ti_3 rfl rfl rfl (nb rfl))) ?_ | refine DW.go (OpR.plain rfl (r_loadp ti_3 rfl rfl (nb rfl))) ?_
          refine DW.go (OpR.plain rfl (r_callFun (op_s _) en_16 rfl rfl rfl rfl (.cons (A.le_refl _) .nil) rfl (nb rfl))) ?_
          refine DW.go (OpR.plain rfl (r_bin rfl rfl (nb rfl) rfl (run_str_add _ _ (by first | omega | (simp only [ByteArray.size_append, sz1]; have hA5 := hA 5; have hA1 := hA 1; have hA2 := hA 2; have hA6 := hA 6; have hB5 := hB 5; have hB2 := hB 2; have hB3 := hB 3; have hB6 := hB 6; have hB7 := hB 7; omega))))) ?_
          refine DW.go (OpR.plain rfl (r_bin rfl rfl (nb rfl) rfl (run_str_add _ _ (by first | omega | (simp only [ByteArray.size_append, sz1]; have hA5 := hA 5; have hA1 := hA 1; have hA2 := hA 2; have hA6 := hA 6; have hB5 := hB 5; have hB2 := hB 2; have hB3 := hB 3; have hB6 := hB 6; have hB7 := hB 7; omega))))) ?_
          first | refine DW.go (OpR.plain rfl (r_load ti_27 rfl rfl (by simp only [loaded, mpc, mpn, if_true, ler, tks, tkz, tkn, dps, dpz, cap, nap, apn, lnc, lnn, zad, Nat.reduceAdd, adz]; rfl) (nb rfl))) ?_ | refine DW.go (OpR.plain rfl (r_loadp ti_27 rfl (by simp only [loaded, mpc, mpn, if_true, ler, tks, tkz, tkn, dps, dpz, cap, nap, apn, lnc, lnn, zad, Nat.reduceAdd, adz]; rfl) (nb rfl))) ?_
          refine DW.go (OpR.plain rfl (r_callFun (part_s _ _ (by omega)) en_27 rfl rfl rfl rfl (.cons (A.le_refl _) (.cons (A.le_refl _) .nil)) rfl (nb rfl))) ?_
          refine DW.go (OpR.plain rfl (r_move rfl (nb rfl) (by rintro _ ⟨⟩))) ?_
          refine DW.go (OpR.plain rfl (r_callId (at_s (e.part 1) _ hy hP.y) en_26 rfl rfl rfl rfl (.cons (A.le_refl _) (.cons (A.le_refl _) .nil)) rfl (.cons rfl .nil) rfl rfl rfl (nb rfl))) ?_
          refine DW.go (OpR.plain rfl (r_bin rfl rfl (nb rfl) rfl (run_str_add _ _ (by first | omega | (simp only [ByteArray.size_append, sz1]; have hA5 := hA 5; have hA1 := hA 1; have hA2 := hA 2; have hA6 := hA 6; have hB5 := hB 5; have hB2 := hB 2; have hB3 := hB 3; have hB6 := hB 6; have hB7 := hB 7; omega))))) ?_
          refine DW.go (OpR.plain rfl (r_assign rfl (nb rfl) (by rintro _ ⟨⟩))) ?_
          refine DW.fin mixed (by kernel_rfl) (by kernel_rfl) ?_
          refine thenN ?_
          refine AW.ret ?_
          refine fin_id (.inr rfl) (ends_of rfl (.tmp rfl .nil)) ?_ (.cons rfl (Ob.le_refl _) .nil) rfl rfl rfl rfl
          simp only [retA]
          refine A.le_of_eq ?_
          unfold asksM
          simp_all
        · have h4n := h4; try simp only [dtt, dff, bqi, bqf, bni, bnf, nt1, nf1, nt0, nf0, ne_eq, ilt, ile] at h4n
          refine AW.seq ?_
          refine AW.region ?_
          refine AL.go (OpR.plain rfl (r_bin rfl rfl (nb rfl) rfl (run_int_eql _ _ _))) ?_
          refine AL.go (OpR.plain rfl (r_assign rfl (nb rfl) (by rintro _ ⟨⟩))) ?_
          refine AL.nil ?_
          refine thenN ?_
          refine AW.condb rfl (fun h5 => ?_) (fun h5 => ?_)
          · have h5n := h5; try simp only [dtt, dff, bqi, bqf, bni, bnf, nt1, nf1, nt0, nf0, ne_eq, ilt, ile] at h5n
            refine AW.region ?_
            refine AL.go (OpR.plain rfl (r_assign rfl (nb rfl) (by rintro _ ⟨⟩; rfl))) ?_
            refine AL.go (OpR.plain rfl (r_assign rfl (nb rfl) (by rintro _ ⟨⟩; rfl))) ?_
            refine AL.nil ?_
            refine inbN ?_
            refine thenN ?_
            refine AW.seq ?_
            refine AW.draw ?_
            first | refine DW.go (OpR.plain rfl (r_load ti_27 rfl rfl (by simp only [loaded, mpc, mpn, if_true, ler, tks, tkz, tkn, dps, dpz, cap, nap, apn, lnc, lnn, zad, Nat.reduceAdd, adz]; rfl) (nb rfl))) ?_ | refine DW.go (OpR.plain rfl (r_loadp ti_27 rfl (by simp only [loaded, mpc, mpn, if_true, ler, tks, tkz, tkn, dps, dpz, cap, nap, apn, lnc, lnn, zad, Nat.reduceAdd, adz]; rfl) (nb rfl))) ?_
            refine DW.go (OpR.plain rfl (r_callFun (part_s _ _ (by omega)) en_27 rfl rfl rfl rfl (.cons (A.le_refl _) (.cons (A.le_refl _) .nil)) rfl (nb rfl))) ?_
            refine DW.go (OpR.plain rfl (r_move rfl (nb rfl) (by rintro _ ⟨⟩))) ?_
            refine DW.go (OpR.plain rfl (r_callId (at_s (e.part 0) _ hx hP.x) en_26 rfl rfl rfl rfl (.cons (A.le_refl _) (.cons (A.le_refl _) .nil)) rfl (.cons rfl .nil) rfl rfl rfl (nb rfl))) ?_
            refine DW.go (OpR.plain rfl (r_bin rfl rfl (nb rfl) rfl (run_str_add _ _ (by first | omega | (simp only [ByteArray.size_append, sz1]; have hA5 := hA 5; have hA1 := hA 1; have hA2 := hA 2; have hA6 := hA 6; have hB5 := hB 5; have hB2 := hB 2; have hB3 := hB 3; have hB6 := hB 6; have hB7 := hB 7; omega))))) ?_
            first | refine DW.go (OpR.plain rfl (r_fieldAddr fo_27_0 (by decide) rfl (nb rfl))) ?_ | refine DW.go (OpR.plain rfl (r_fieldAddrp fo_27_0 (by decide) rfl (nb rfl))) ?_
            first | refine DW.go (OpR.plain rfl (r_load ti_3 rfl rfl rfl (nb rfl))) ?_ | refine DW.go (OpR.plain rfl (r_loadp ti_3 rfl rfl (nb rfl))) ?_
            refine DW.go (OpR.plain rfl (r_callFun (op_s _) en_16 rfl rfl rfl rfl (.cons (A.le_refl _) .nil) rfl (nb rfl))) ?_
            refine DW.go (OpR.plain rfl (r_bin rfl rfl (nb rfl) rfl (run_str_add _ _ (by first | omega | (simp only [ByteArray.size_append, sz1]; have hA5 := hA 5; have hA1 := hA 1; have hA2 := hA 2; have hA6 := hA 6; have hB5 := hB 5; have hB2 := hB 2; have hB3 := hB 3; have hB6 := hB 6; have hB7 := hB 7; omega))))) ?_
            refine DW.go (OpR.plain rfl (r_bin rfl rfl (nb rfl) rfl (run_str_add _ _ (by first | omega | (simp only [ByteArray.size_append, sz1]; have hA5 := hA 5; have hA1 := hA 1; have hA2 := hA 2; have hA6 := hA 6; have hB5 := hB 5; have hB2 := hB 2; have hB3 := hB 3; have hB6 := hB 6; have hB7 := hB 7; omega))))) ?_
            first | refine DW.go (OpR.plain rfl (r_load ti_27 rfl rfl (by simp only [loaded, mpc, mpn, if_true, ler, tks, tkz, tkn, dps, dpz, cap, nap, apn, lnc, lnn, zad, Nat.reduceAdd, adz]; rfl) (nb rfl))) ?_ | refine DW.go (OpR.plain rfl (r_loadp ti_27 rfl (by simp only [loaded, mpc, mpn, if_true, ler, tks, tkz, tkn, dps, dpz, cap, nap, apn, lnc, lnn, zad, Nat.reduceAdd, adz]; rfl) (nb rfl))) ?_
            refine DW.go (OpR.plain rfl (r_callFun (part_s _ _ (by omega)) en_27 rfl rfl rfl rfl (.cons (A.le_refl _) (.cons (A.le_refl _) .nil)) rfl (nb rfl))) ?_
            refine DW.go (OpR.plain rfl (r_move rfl (nb rfl) (by rintro _ ⟨⟩))) ?_
            refine DW.go (OpR.plain rfl (r_callId (at_s (e.part 1) _ hy hP.y) en_26 rfl rfl rfl rfl (.cons (A.le_refl _) (.cons (A.le_refl _) .nil)) rfl (.cons rfl .nil) rfl rfl rfl (nb rfl))) ?_
            refine DW.go (OpR.plain rfl (r_bin rfl rfl (nb rfl) rfl (run_str_add _ _ (by first | omega | (simp only [ByteArray.size_append, sz1]; have hA5 := hA 5; have hA1 := hA 1; have hA2 := hA 2; have hA6 := hA 6; have hB5 := hB 5; have hB2 := hB 2; have hB3 := hB 3; have hB6 := hB 6; have hB7 := hB 7; omega))))) ?_
            refine DW.go (OpR.plain rfl (r_assign rfl (nb rfl) (by rintro _ ⟨⟩))) ?_
            refine DW.fin mixed (by kernel_rfl) (by kernel_rfl) ?_
            refine thenN ?_
            refine AW.ret ?_
            refine fin_id (.inr rfl) (ends_of rfl (.tmp rfl .nil)) ?_ (.cons rfl (Ob.le_refl _) .nil) rfl rfl rfl rfl
            simp only [retA]
            refine A.le_of_eq ?_
            unfold asksM
            simp_all
          · have h5n := h5; try simp only [dtt, dff, bqi, bqf, bni, bnf, nt1, nf1, nt0, nf0, ne_eq, ilt, ile] at h5n
            refine AW.skip ?_
            refine inbN ?_
            refine thenN ?_
            refine AW.seq ?_
            refine AW.draw ?_
            first | refine DW.go (OpR.plain rfl (r_load ti_27 rfl rfl (by simp only [loaded, mpc, mpn, if_true, ler, tks, tkz, tkn, dps, dpz, cap, nap, apn, lnc, lnn, zad, Nat.reduceAdd, adz]; rfl) (nb rfl))) ?_ | refine DW.go (OpR.plain rfl (r_loadp ti_27 rfl (by simp only [loaded, mpc, mpn, if_true, ler, tks, tkz, tkn, dps, dpz, cap, nap, apn, lnc, lnn, zad, Nat.reduceAdd, adz]; rfl) (nb rfl))) ?_
            refine DW.go (OpR.plain rfl (r_callFun (part_s _ _ (by omega)) en_27 rfl rfl rfl rfl (.cons (A.le_refl _) (.cons (A.le_refl _) .nil)) rfl (nb rfl))) ?_
            refine DW.go (OpR.plain rfl (r_move rfl (nb rfl) (by rintro _ ⟨⟩))) ?_
            refine DW.go (OpR.plain rfl (r_callId (at_s (e.part 0) _ hx hP.x) en_26 rfl rfl rfl rfl (.cons (A.le_refl _) (.cons (A.le_refl _) .nil)) rfl (.cons rfl .nil) rfl rfl rfl (nb rfl))) ?_
            refine DW.go (OpR.plain rfl (r_bin rfl rfl (nb rfl) rfl (run_str_add _ _ (by first | omega | (simp only [ByteArray.size_append, sz1]; have hA5 := hA 5; have hA1 := hA 1; have hA2 := hA 2; have hA6 := hA 6; have hB5 := hB 5; have hB2 := hB 2; have hB3 := hB 3; have hB6 := hB 6; have hB7 := hB 7; omega))))) ?_
            first | refine DW.go (OpR.plain rfl (r_fieldAddr fo_27_0 (by decide) rfl (nb rfl))) ?_ | refine DW.go (OpR.plain rfl (r_fieldAddrp fo_27_0 (by decide) rfl (nb rfl))) ?_
            first | refine DW.go (OpR.plain rfl (r_load ti_3 rfl rfl rfl (nb rfl))) ?_ | refine DW.go (OpR.plain rfl (r_loadp ti_3 rfl rfl (nb rfl))) ?_
            refine DW.go (OpR.plain rfl (r_callFun (op_s _) en_16 rfl rfl rfl rfl (.cons (A.le_refl _) .nil) rfl (nb rfl))) ?_
            refine DW.go (OpR.plain rfl (r_bin rfl rfl (nb rfl) rfl (run_str_add _ _ (by first | omega | (simp only [ByteArray.size_append, sz1]; have hA5 := hA 5; have hA1 := hA 1; have hA2 := hA 2; have hA6 := hA 6; have hB5 := hB 5; have hB2 := hB 2; have hB3 := hB 3; have hB6 := hB 6; have hB7 := hB 7; omega))))) ?_
            refine DW.go (OpR.plain rfl (r_bin rfl rfl (nb rfl) rfl (run_str_add _ _ (by first | omega | (simp only [ByteArray.size_append, sz1]; have hA5 := hA 5; have hA1 := hA 1; have hA2 := hA 2; have hA6 := hA 6; have hB5 := hB 5; have hB2 := hB 2; have hB3 := hB 3; have hB6 := hB 6; have hB7 := hB 7; omega))))) ?_
            first | refine DW.go (OpR.plain rfl (r_load ti_27 rfl rfl (by simp only [loaded, mpc, mpn, if_true, ler, tks, tkz, tkn, dps, dpz, cap, nap, apn, lnc, lnn, zad, Nat.reduceAdd, adz]; rfl) (nb rfl))) ?_ | refine DW.go (OpR.plain rfl (r_loadp ti_27 rfl (by simp only [loaded, mpc, mpn, if_true, ler, tks, tkz, tkn, dps, dpz, cap, nap, apn, lnc, lnn, zad, Nat.reduceAdd, adz]; rfl) (nb rfl))) ?_
            refine DW.go (OpR.plain rfl (r_callFun (part_s _ _ (by omega)) en_27 rfl rfl rfl rfl (.cons (A.le_refl _) (.cons (A.le_refl _) .nil)) rfl (nb rfl))) ?_
            refine DW.go (OpR.plain rfl (r_move rfl (nb rfl) (by rintro _ ⟨⟩))) ?_
            refine DW.go (OpR.plain rfl (r_callId (at_s (e.part 1) _ hy hP.y) en_26 rfl rfl rfl rfl (.cons (A.le_refl _) (.cons (A.le_refl _) .nil)) rfl (.cons rfl .nil) rfl rfl rfl (nb rfl))) ?_
            refine DW.go (OpR.plain rfl (r_bin rfl rfl (nb rfl) rfl (run_str_add _ _ (by first | omega | (simp only [ByteArray.size_append, sz1]; have hA5 := hA 5; have hA1 := hA 1; have hA2 := hA 2; have hA6 := hA 6; have hB5 := hB 5; have hB2 := hB 2; have hB3 := hB 3; have hB6 := hB 6; have hB7 := hB 7; omega))))) ?_
            refine DW.go (OpR.plain rfl (r_assign rfl (nb rfl) (by rintro _ ⟨⟩))) ?_
            refine DW.fin mixed (by kernel_rfl) (by kernel_rfl) ?_
            refine thenN ?_
            refine AW.ret ?_
            refine fin_id (.inr rfl) (ends_of rfl (.tmp rfl .nil)) ?_ (.cons rfl (Ob.le_refl _) .nil) rfl rfl rfl rfl
            simp only [retA]
            refine A.le_of_eq ?_
            unfold asksM
            simp_all

set_option maxHeartbeats 1000000 in
theorem expr_p (e : Ex) (hP : PrOk e) (hx : recs e.op = true → Prs (e.part 0)) (hy : recs e.op = true → Prs (e.part 1)) : Am.Spec Tryd.prog 9 [exA e] [(90, pow)] (A.val (.string e.pr)) [(90, pow)] := by
  refine spec_ofN (n := 67) Tryd.func9 rfl rfl (nb rfl) ?_
  show AW _ _ (⟨[(0, exA e)], [(90, pow)], []⟩ : St) _
  have hPx := hP.x
  have hPy := hP.y
  have hPt := hP.tab
  have hPn := hP.name
  have hOp := opM_size e.op
  have hA5 := parM_size 5 (e.part 0) (e.part 0).pr
  have hA3 := parM_size 3 (e.part 0) (e.part 0).pr
  refine AW.seq ?_
  refine AW.region ?_
  refine AL.go (OpR.plain rfl (r_box 101 rfl rfl rfl (nb rfl) (by rintro _ ⟨⟩))) ?_
  refine AL.go (OpR.plain rfl (r_assign rfl (nb rfl) (by rintro _ ⟨⟩; rfl))) ?_
  refine AL.nil ?_
  refine thenN ?_
  refine AW.seq ?_
  refine AW.seq ?_
  refine AW.region ?_
  first | refine AL.go (OpR.plain rfl (r_fieldAddr fo_27_0 (by decide) rfl (nb rfl))) ?_ | refine AL.go (OpR.plain rfl (r_fieldAddrp fo_27_0 (by decide) rfl (nb rfl))) ?_
  first | refine AL.go (OpR.plain rfl (r_load ti_3 rfl rfl rfl (nb rfl))) ?_ | refine AL.go (OpR.plain rfl (r_loadp ti_3 rfl rfl (nb rfl))) ?_
  refine AL.nil ?_
  refine thenN ?_
  refine AW.block ?_
  refine AW.seq ?_
  refine AW.region ?_
  refine AL.go (OpR.plain rfl (r_bin rfl rfl (nb rfl) rfl (run_int_eql _ _ _))) ?_
  refine AL.go (OpR.plain rfl (r_assign rfl (nb rfl) (by rintro _ ⟨⟩))) ?_
  refine AL.nil ?_
  refine thenN ?_
  refine AW.condb rfl (fun h1 => ?_) (fun h1 => ?_)
  · have h1n := h1; try simp only [dtt, dff, bqi, bqf, bni, bnf, nt1, nf1, nt0, nf0, ne_eq, ilt, ile] at h1n
    refine AW.seq ?_
    refine AW.region ?_
    first | refine AL.go (OpR.plain rfl (r_load ti_27 rfl rfl (by simp only [loaded, mpc, mpn, if_true, ler, tks, tkz, tkn, dps, dpz, cap, nap, apn, lnc, lnn, zad, Nat.reduceAdd, adz]; rfl) (nb rfl))) ?_ | refine AL.go (OpR.plain rfl (r_loadp ti_27 rfl (by simp only [loaded, mpc, mpn, if_true, ler, tks, tkz, tkn, dps, dpz, cap, nap, apn, lnc, lnn, zad, Nat.reduceAdd, adz]; rfl) (nb rfl))) ?_
    refine AL.go (OpR.plain rfl (r_callFun (part_s _ _ (by omega)) en_27 rfl rfl rfl rfl (.cons (A.le_refl _) (.cons (A.le_refl _) .nil)) rfl (nb rfl))) ?_
    refine AL.go (OpR.plain rfl (r_callId (at_s (e.part 0) 3 (hx (recs_of (by omega))) hP.x) en_26 rfl rfl rfl rfl (.cons (A.le_refl _) (.cons (A.le_refl _) .nil)) rfl (.cons rfl .nil) rfl rfl rfl (nb rfl))) ?_
    refine AL.go (OpR.plain rfl (r_bin rfl rfl (nb rfl) rfl (run_str_add _ _ (by first | omega | (simp only [ByteArray.size_append, sz1, sz2, sz4, sz8, sz12] at *; omega))))) ?_
    refine AL.go (OpR.plain rfl (r_assign rfl (nb rfl) (by rintro _ ⟨⟩))) ?_
    refine AL.nil ?_
    refine thenN ?_
    refine AW.ret ?_
    refine inbR ?_
    refine thenR ?_
    refine fin_id (.inr rfl) (ends_of rfl (.tmp rfl .nil)) ?_ (.cons rfl (Ob.le_refl _) .nil) rfl rfl rfl rfl
    simp only [retA]
    refine A.le_of_eq ?_
    rw [Ex.pr_eq e]
    unfold prOp
    repeat (first | rw [if_pos (by first | assumption | omega)] | rw [if_neg (by first | assumption | omega)])
  · have h1n := h1; try simp only [dtt, dff, bqi, bqf, bni, bnf, nt1, nf1, nt0, nf0, ne_eq, ilt, ile] at h1n
    refine AW.seq ?_
    refine AW.region ?_
    refine AL.go (OpR.plain rfl (r_bin rfl rfl (nb rfl) rfl (run_int_eql _ _ _))) ?_
    refine AL.go (OpR.plain rfl (r_assign rfl (nb rfl) (by rintro _ ⟨⟩))) ?_
    refine AL.nil ?_
    refine thenN ?_
    refine AW.condb rfl (fun h2 => ?_) (fun h2 => ?_)
    · have h2n := h2; try simp only [dtt, dff, bqi, bqf, bni, bnf, nt1, nf1, nt0, nf0, ne_eq, ilt, ile] at h2n
      refine AW.seq ?_
      refine AW.region ?_
      first | refine AL.go (OpR.plain rfl (r_load ti_27 rfl rfl (by simp only [loaded, mpc, mpn, if_true, ler, tks, tkz, tkn, dps, dpz, cap, nap, apn, lnc, lnn, zad, Nat.reduceAdd, adz]; rfl) (nb rfl))) ?_ | refine AL.go (OpR.plain rfl (r_loadp ti_27 rfl (by simp only [loaded, mpc, mpn, if_true, ler, tks, tkz, tkn, dps, dpz, cap, nap, apn, lnc, lnn, zad, Nat.reduceAdd, adz]; rfl) (nb rfl))) ?_
      refine AL.go (OpR.plain rfl (r_callFun (part_s _ _ (by omega)) en_27 rfl rfl rfl rfl (.cons (A.le_refl _) (.cons (A.le_refl _) .nil)) rfl (nb rfl))) ?_
      refine AL.go (OpR.plain rfl (r_callId (at_s (e.part 0) 5 (hx (recs_of (by omega))) hP.x) en_26 rfl rfl rfl rfl (.cons (A.le_refl _) (.cons (A.le_refl _) .nil)) rfl (.cons rfl .nil) rfl rfl rfl (nb rfl))) ?_
      refine AL.go (OpR.plain rfl (r_bin rfl rfl (nb rfl) rfl (run_str_add _ _ (by first | omega | (simp only [ByteArray.size_append, sz1, sz2, sz4, sz8, sz12] at *; omega))))) ?_
      refine AL.go (OpR.plain rfl (r_assign rfl (nb rfl) (by rintro _ ⟨⟩))) ?_
      refine AL.nil ?_
      refine thenN ?_
      refine AW.ret ?_
      refine inbR ?_
      refine thenR ?_
      refine fin_id (.inr rfl) (ends_of rfl (.tmp rfl .nil)) ?_ (.cons rfl (Ob.le_refl _) .nil) rfl rfl rfl rfl
      simp only [retA]
      refine A.le_of_eq ?_
      rw [Ex.pr_eq e]
      unfold prOp
      repeat (first | rw [if_pos (by first | assumption | omega)] | rw [if_neg (by first | assumption | omega)])
    · have h2n := h2; try simp only [dtt, dff, bqi, bqf, bni, bnf, nt1, nf1, nt0, nf0, ne_eq, ilt, ile] at h2n
      refine AW.seq ?_
      refine AW.region ?_
      refine AL.go (OpR.plain rfl (r_bin rfl rfl (nb rfl) rfl (run_int_eql _ _ _))) ?_
      refine AL.go (OpR.plain rfl (r_assign rfl (nb rfl) (by rintro _ ⟨⟩))) ?_
      refine AL.nil ?_
      refine thenN ?_
      refine AW.condb rfl (fun h3 => ?_) (fun h3 => ?_)
      · have h3n := h3; try simp only [dtt, dff, bqi, bqf, bni, bnf, nt1, nf1, nt0, nf0, ne_eq, ilt, ile] at h3n
        refine AW.seq ?_
        refine AW.region ?_
        first | refine AL.go (OpR.plain rfl (r_load ti_27 rfl rfl (by simp only [loaded, mpc, mpn, if_true, ler, tks, tkz, tkn, dps, dpz, cap, nap, apn, lnc, lnn, zad, Nat.reduceAdd, adz]; rfl) (nb rfl))) ?_ | refine AL.go (OpR.plain rfl (r_loadp ti_27 rfl (by simp only [loaded, mpc, mpn, if_true, ler, tks, tkz, tkn, dps, dpz, cap, nap, apn, lnc, lnn, zad, Nat.reduceAdd, adz]; rfl) (nb rfl))) ?_
        refine AL.go (OpR.plain rfl (r_callFun (part_s _ _ (by omega)) en_27 rfl rfl rfl rfl (.cons (A.le_refl _) (.cons (A.le_refl _) .nil)) rfl (nb rfl))) ?_
        refine AL.go (OpR.plain rfl (r_callId (at_s (e.part 0) 5 (hx (recs_of (by omega))) hP.x) en_26 rfl rfl rfl rfl (.cons (A.le_refl _) (.cons (A.le_refl _) .nil)) rfl (.cons rfl .nil) rfl rfl rfl (nb rfl))) ?_
        refine AL.go (OpR.plain rfl (r_bin rfl rfl (nb rfl) rfl (run_str_add _ _ (by first | omega | (simp only [ByteArray.size_append, sz1, sz2, sz4, sz8, sz12] at *; omega))))) ?_
        refine AL.go (OpR.plain rfl (r_assign rfl (nb rfl) (by rintro _ ⟨⟩))) ?_
        refine AL.nil ?_
        refine thenN ?_
        refine AW.ret ?_
        refine inbR ?_
        refine thenR ?_
        refine fin_id (.inr rfl) (ends_of rfl (.tmp rfl .nil)) ?_ (.cons rfl (Ob.le_refl _) .nil) rfl rfl rfl rfl
        simp only [retA]
        refine A.le_of_eq ?_
        rw [Ex.pr_eq e]
        unfold prOp
        repeat (first | rw [if_pos (by first | assumption | omega)] | rw [if_neg (by first | assumption | omega)])
      · have h3n := h3; try simp only [dtt, dff, bqi, bqf, bni, bnf, nt1, nf1, nt0, nf0, ne_eq, ilt, ile] at h3n
        refine AW.seq ?_
        refine AW.region ?_
        refine AL.go (OpR.plain rfl (r_bin rfl rfl (nb rfl) rfl (run_int_eql _ _ _))) ?_
        refine AL.go (OpR.plain rfl (r_assign rfl (nb rfl) (by rintro _ ⟨⟩))) ?_
        refine AL.nil ?_
        refine thenN ?_
        refine AW.condb rfl (fun h4 => ?_) (fun h4 => ?_)
        · have h4n := h4; try simp only [dtt, dff, bqi, bqf, bni, bnf, nt1, nf1, nt0, nf0, ne_eq, ilt, ile] at h4n
          refine AW.seq ?_
          refine AW.seq ?_
          refine AW.region ?_
          first | refine AL.go (OpR.plain rfl (r_fieldAddr fo_27_1 (by decide) rfl (nb rfl))) ?_ | refine AL.go (OpR.plain rfl (r_fieldAddrp fo_27_1 (by decide) rfl (nb rfl))) ?_
          first | refine AL.go (OpR.plain rfl (r_load ti_9 rfl rfl rfl (nb rfl))) ?_ | refine AL.go (OpR.plain rfl (r_loadp ti_9 rfl rfl (nb rfl))) ?_
          refine AL.go (OpR.plain rfl (r_bin rfl rfl (nb rfl) rfl (run_str_eql _ _))) ?_
          refine AL.nil ?_
          refine thenN ?_
          refine AW.condb rfl (fun h5 => ?_) (fun h5 => ?_)
          · have h5n := h5; try simp only [dtt, dff, bqi, bqf, bni, bnf, nt1, nf1, nt0, nf0, ne_eq, ilt, ile] at h5n
            refine AW.seq ?_
            refine AW.region ?_
            first | refine AL.go (OpR.plain rfl (r_fieldAddr fo_27_2 (by decide) rfl (nb rfl))) ?_ | refine AL.go (OpR.plain rfl (r_fieldAddrp fo_27_2 (by decide) rfl (nb rfl))) ?_
            first | refine AL.go (OpR.plain rfl (r_load ti_9 rfl rfl rfl (nb rfl))) ?_ | refine AL.go (OpR.plain rfl (r_loadp ti_9 rfl rfl (nb rfl))) ?_
            refine AL.go (OpR.plain rfl (r_assign rfl (nb rfl) (by rintro _ ⟨⟩))) ?_
            refine AL.nil ?_
            refine thenN ?_
            refine AW.ret ?_
            refine thenR ?_
            refine inbR ?_
            refine thenR ?_
            refine fin_id (.inr rfl) (ends_of rfl (.tmp rfl .nil)) ?_ (.cons rfl (Ob.le_refl _) .nil) rfl rfl rfl rfl
            simp only [retA]
            refine A.le_of_eq ?_
            rw [Ex.pr_eq e]
            unfold prOp
            repeat (first | rw [if_pos (by first | assumption | omega)] | rw [if_neg (by first | assumption | omega)])
          · have h5n := h5; try simp only [dtt, dff, bqi, bqf, bni, bnf, nt1, nf1, nt0, nf0, ne_eq, ilt, ile] at h5n
            refine AW.skip ?_
            refine thenN ?_
            refine AW.seq ?_
            refine AW.region ?_
            first | refine AL.go (OpR.plain rfl (r_fieldAddr fo_27_1 (by decide) rfl (nb rfl))) ?_ | refine AL.go (OpR.plain rfl (r_fieldAddrp fo_27_1 (by decide) rfl (nb rfl))) ?_
            first | refine AL.go (OpR.plain rfl (r_load ti_9 rfl rfl rfl (nb rfl))) ?_ | refine AL.go (OpR.plain rfl (r_loadp ti_9 rfl rfl (nb rfl))) ?_
            refine AL.go (OpR.plain rfl (r_bin rfl rfl (nb rfl) rfl (run_str_add _ _ (by first | omega | (simp only [ByteArray.size_append, sz1, sz2, sz4, sz8, sz12] at *; omega))))) ?_
            first | refine AL.go (OpR.plain rfl (r_fieldAddr fo_27_2 (by decide) rfl (nb rfl))) ?_ | refine AL.go (OpR.plain rfl (r_fieldAddrp fo_27_2 (by decide) rfl (nb rfl))) ?_
            first | refine AL.go (OpR.plain rfl (r_load ti_9 rfl rfl rfl (nb rfl))) ?_ | refine AL.go (OpR.plain rfl (r_loadp ti_9 rfl rfl (nb rfl))) ?_
            refine AL.go (OpR.plain rfl (r_bin rfl rfl (nb rfl) rfl (run_str_add _ _ (by first | omega | (simp only [ByteArray.size_append, sz1, sz2, sz4, sz8, sz12] at *; omega))))) ?_
            refine AL.go (OpR.plain rfl (r_assign rfl (nb rfl) (by rintro _ ⟨⟩))) ?_
            refine AL.nil ?_
            refine thenN ?_
            refine AW.ret ?_
            refine inbR ?_
            refine thenR ?_
            refine fin_id (.inr rfl) (ends_of rfl (.tmp rfl .nil)) ?_ (.cons rfl (Ob.le_refl _) .nil) rfl rfl rfl rfl
            simp only [retA]
            refine A.le_of_eq ?_
            rw [Ex.pr_eq e]
            unfold prOp
            repeat (first | rw [if_pos (by first | assumption | omega)] | rw [if_neg (by first | assumption | omega)])
        · have h4n := h4; try simp only [dtt, dff, bqi, bqf, bni, bnf, nt1, nf1, nt0, nf0, ne_eq, ilt, ile] at h4n
          refine AW.seq ?_
          refine AW.region ?_
          refine AL.go (OpR.plain rfl (r_bin rfl rfl (nb rfl) rfl (run_int_eql _ _ _))) ?_
          refine AL.go (OpR.plain rfl (r_assign rfl (nb rfl) (by rintro _ ⟨⟩))) ?_
          refine AL.nil ?_
          refine thenN ?_
          refine AW.condb rfl (fun h6 => ?_) (fun h6 => ?_)
          · have h6n := h6; try simp only [dtt, dff, bqi, bqf, bni, bnf, nt1, nf1, nt0, nf0, ne_eq, ilt, ile] at h6n
            refine AW.seq ?_
            refine AW.region ?_
            first | refine AL.go (OpR.plain rfl (r_fieldAddr fo_27_5 (by decide) rfl (nb rfl))) ?_ | refine AL.go (OpR.plain rfl (r_fieldAddrp fo_27_5 (by decide) rfl (nb rfl))) ?_
            first | refine AL.go (OpR.plain rfl (r_load ti_24 rfl rfl (by simp only [loaded, mpc, mpn, if_true, ler, tks, tkz, tkn, dps, dpz, cap, nap, apn, lnc, lnn, zad, Nat.reduceAdd, adz]; rfl) (nb rfl))) ?_ | refine AL.go (OpR.plain rfl (r_loadp ti_24 rfl (by simp only [loaded, mpc, mpn, if_true, ler, tks, tkz, tkn, dps, dpz, cap, nap, apn, lnc, lnn, zad, Nat.reduceAdd, adz]; rfl) (nb rfl))) ?_
            refine AL.go (OpR.plain rfl (r_callId (val_p _ hP.lo hP.hi hP.s) en_18 rfl rfl rfl rfl (.cons (A.le_refl _) .nil) rfl (.cons rfl .nil) rfl rfl rfl (nb rfl))) ?_
            refine AL.go (OpR.plain rfl (r_assign rfl (nb rfl) (by rintro _ ⟨⟩))) ?_
            refine AL.nil ?_
            refine thenN ?_
            refine AW.ret ?_
            refine inbR ?_
            refine thenR ?_
            refine fin_id (.inr rfl) (ends_of rfl (.tmp rfl .nil)) ?_ (.cons rfl (Ob.le_refl _) .nil) rfl rfl rfl rfl
            simp only [retA]
            refine A.le_of_eq ?_
            rw [Ex.pr_eq e]
            unfold prOp
            repeat (first | rw [if_pos (by first | assumption | omega)] | rw [if_neg (by first | assumption | omega)])
          · have h6n := h6; try simp only [dtt, dff, bqi, bqf, bni, bnf, nt1, nf1, nt0, nf0, ne_eq, ilt, ile] at h6n
            refine AW.seq ?_
            refine AW.region ?_
            refine AL.go (OpR.plain rfl (r_bin rfl rfl (nb rfl) rfl (run_int_eql _ _ _))) ?_
            refine AL.go (OpR.plain rfl (r_assign rfl (nb rfl) (by rintro _ ⟨⟩))) ?_
            refine AL.nil ?_
            refine thenN ?_
            refine AW.condb rfl (fun h7 => ?_) (fun h7 => ?_)
            · have h7n := h7; try simp only [dtt, dff, bqi, bqf, bni, bnf, nt1, nf1, nt0, nf0, ne_eq, ilt, ile] at h7n
              refine AW.seq ?_
              refine AW.region ?_
              refine AL.go (OpR.plain rfl (r_assign rfl (nb rfl) (by rintro _ ⟨⟩; rfl))) ?_
              refine AL.nil ?_
              refine thenN ?_
              refine AW.ret ?_
              refine inbR ?_
              refine thenR ?_
              refine fin_id (.inr rfl) (ends_of rfl (.tmp rfl .nil)) ?_ (.cons rfl (Ob.le_refl _) .nil) rfl rfl rfl rfl
              simp only [retA]
              refine A.le_of_eq ?_
              rw [Ex.pr_eq e]
              unfold prOp
              repeat (first | rw [if_pos (by first | assumption | omega)] | rw [if_neg (by first | assumption | omega)])
            · have h7n := h7; try simp only [dtt, dff, bqi, bqf, bni, bnf, nt1, nf1, nt0, nf0, ne_eq, ilt, ile] at h7n
              refine AW.seq ?_
              refine AW.seq ?_
              refine AW.region ?_
              refine AL.go (OpR.plain rfl (r_bin rfl rfl (nb rfl) rfl (run_int_eql _ _ _))) ?_
              refine AL.go (OpR.plain rfl (r_assign rfl (nb rfl) (by rintro _ ⟨⟩))) ?_
              refine AL.nil ?_
              refine thenN ?_
              refine AW.condb rfl (fun h8 => ?_) (fun h8 => ?_)
              · have h8n := h8; try simp only [dtt, dff, bqi, bqf, bni, bnf, nt1, nf1, nt0, nf0, ne_eq, ilt, ile] at h8n
                refine AW.skip ?_
                refine thenN ?_
                refine AW.condT rfl (h8) ?_
                refine AW.seq ?_
                refine AW.draw ?_
                first | refine DW.go (OpR.plain rfl (r_fieldAddr fo_27_0 (by decide) rfl (nb rfl))) ?_ | refine DW.go (OpR.plain rfl (r_fieldAddrp fo_27_0 (by decide) rfl (nb rfl))) ?_
                first | refine DW.go (OpR.plain rfl (r_load ti_3 rfl rfl rfl (nb rfl))) ?_ | refine DW.go (OpR.plain rfl (r_loadp ti_3 rfl rfl (nb rfl))) ?_
                refine DW.go (OpR.plain rfl (r_callFun (op_s _) en_16 rfl rfl rfl rfl (.cons (A.le_refl _) .nil) rfl (nb rfl))) ?_
                refine DW.go (OpR.plain rfl (r_bin rfl rfl (nb rfl) rfl (run_str_add _ _ (by first | omega | (simp only [ByteArray.size_append, sz1, sz2, sz4, sz8, sz12] at *; omega))))) ?_
                first | refine DW.go (OpR.plain rfl (r_load ti_27 rfl rfl (by simp only [loaded, mpc, mpn, if_true, ler, tks, tkz, tkn, dps, dpz, cap, nap, apn, lnc, lnn, zad, Nat.reduceAdd, adz]; rfl) (nb rfl))) ?_ | refine DW.go (OpR.plain rfl (r_loadp ti_27 rfl (by simp only [loaded, mpc, mpn, if_true, ler, tks, tkz, tkn, dps, dpz, cap, nap, apn, lnc, lnn, zad, Nat.reduceAdd, adz]; rfl) (nb rfl))) ?_
                refine DW.go (OpR.plain rfl (r_callFun (part_s _ _ (by omega)) en_27 rfl rfl rfl rfl (.cons (A.le_refl _) (.cons (A.le_refl _) .nil)) rfl (nb rfl))) ?_
                refine DW.go (OpR.plain rfl (r_callId (hx (recs_of (by omega))) en_9 rfl rfl rfl rfl (.cons (A.le_refl _) .nil) rfl (.cons rfl .nil) rfl rfl rfl (nb rfl))) ?_
                refine DW.go (OpR.plain rfl (r_bin rfl rfl (nb rfl) rfl (run_str_add _ _ (by first | omega | (simp only [ByteArray.size_append, sz1, sz2, sz4, sz8, sz12] at *; omega))))) ?_
                refine DW.go (OpR.plain rfl (r_bin rfl rfl (nb rfl) rfl (run_str_add _ _ (by first | omega | (simp only [ByteArray.size_append, sz1, sz2, sz4, sz8, sz12] at *; omega))))) ?_
                refine DW.go (OpR.plain rfl (r_assign rfl (nb rfl) (by rintro _ ⟨⟩))) ?_
                refine DW.fin mixed (by kernel_rfl) (by kernel_rfl) ?_
                refine thenN ?_
                refine AW.ret ?_
                refine inbR ?_
                refine thenR ?_
                refine fin_id (.inr rfl) (ends_of rfl (.tmp rfl .nil)) ?_ (.cons rfl (Ob.le_refl _) .nil) rfl rfl rfl rfl
                simp only [retA]
                refine A.le_of_eq ?_
                rw [Ex.pr_eq e]
                unfold prOp
                repeat (first | rw [if_pos (by first | assumption | omega)] | rw [if_neg (by first | assumption | omega)])
              · have h8n := h8; try simp only [dtt, dff, bqi, bqf, bni, bnf, nt1, nf1, nt0, nf0, ne_eq, ilt, ile] at h8n
                refine AW.seq ?_
                refine AW.region ?_
                refine AL.go (OpR.plain rfl (r_bin rfl rfl (nb rfl) rfl (run_int_eql _ _ _))) ?_
                refine AL.go (OpR.plain rfl (r_assign rfl (nb rfl) (by rintro _ ⟨⟩))) ?_
                refine AL.nil ?_
                refine thenN ?_
                refine AW.condb rfl (fun h9 => ?_) (fun h9 => ?_)
                · have h9n := h9; try simp only [dtt, dff, bqi, bqf, bni, bnf, nt1, nf1, nt0, nf0, ne_eq, ilt, ile] at h9n
                  refine AW.skip ?_
                  refine thenN ?_
                  refine AW.condT rfl (h9) ?_
                  refine AW.seq ?_
                  refine AW.draw ?_
                  first | refine DW.go (OpR.plain rfl (r_fieldAddr fo_27_0 (by decide) rfl (nb rfl))) ?_ | refine DW.go (OpR.plain rfl (r_fieldAddrp fo_27_0 (by decide) rfl (nb rfl))) ?_
                  first | refine DW.go (OpR.plain rfl (r_load ti_3 rfl rfl rfl (nb rfl))) ?_ | refine DW.go (OpR.plain rfl (r_loadp ti_3 rfl rfl (nb rfl))) ?_
                  refine DW.go (OpR.plain rfl (r_callFun (op_s _) en_16 rfl rfl rfl rfl (.cons (A.le_refl _) .nil) rfl (nb rfl))) ?_
                  refine DW.go (OpR.plain rfl (r_bin rfl rfl (nb rfl) rfl (run_str_add _ _ (by first | omega | (simp only [ByteArray.size_append, sz1, sz2, sz4, sz8, sz12] at *; omega))))) ?_
                  first | refine DW.go (OpR.plain rfl (r_load ti_27 rfl rfl (by simp only [loaded, mpc, mpn, if_true, ler, tks, tkz, tkn, dps, dpz, cap, nap, apn, lnc, lnn, zad, Nat.reduceAdd, adz]; rfl) (nb rfl))) ?_ | refine DW.go (OpR.plain rfl (r_loadp ti_27 rfl (by simp only [loaded, mpc, mpn, if_true, ler, tks, tkz, tkn, dps, dpz, cap, nap, apn, lnc, lnn, zad, Nat.reduceAdd, adz]; rfl) (nb rfl))) ?_
                  refine DW.go (OpR.plain rfl (r_callFun (part_s _ _ (by omega)) en_27 rfl rfl rfl rfl (.cons (A.le_refl _) (.cons (A.le_refl _) .nil)) rfl (nb rfl))) ?_
                  refine DW.go (OpR.plain rfl (r_callId (hx (recs_of (by omega))) en_9 rfl rfl rfl rfl (.cons (A.le_refl _) .nil) rfl (.cons rfl .nil) rfl rfl rfl (nb rfl))) ?_
                  refine DW.go (OpR.plain rfl (r_bin rfl rfl (nb rfl) rfl (run_str_add _ _ (by first | omega | (simp only [ByteArray.size_append, sz1, sz2, sz4, sz8, sz12] at *; omega))))) ?_
                  refine DW.go (OpR.plain rfl (r_bin rfl rfl (nb rfl) rfl (run_str_add _ _ (by first | omega | (simp only [ByteArray.size_append, sz1, sz2, sz4, sz8, sz12] at *; omega))))) ?_
                  refine DW.go (OpR.plain rfl (r_assign rfl (nb rfl) (by rintro _ ⟨⟩))) ?_
                  refine DW.fin mixed (by kernel_rfl) (by kernel_rfl) ?_
                  refine thenN ?_
                  refine AW.ret ?_
                  refine inbR ?_
                  refine thenR ?_
                  refine fin_id (.inr rfl) (ends_of rfl (.tmp rfl .nil)) ?_ (.cons rfl (Ob.le_refl _) .nil) rfl rfl rfl rfl
                  simp only [retA]
                  refine A.le_of_eq ?_
                  rw [Ex.pr_eq e]
                  unfold prOp
                  repeat (first | rw [if_pos (by first | assumption | omega)] | rw [if_neg (by first | assumption | omega)])
                · have h9n := h9; try simp only [dtt, dff, bqi, bqf, bni, bnf, nt1, nf1, nt0, nf0, ne_eq, ilt, ile] at h9n
                  refine AW.seq ?_
                  refine AW.region ?_
                  refine AL.go (OpR.plain rfl (r_bin rfl rfl (nb rfl) rfl (run_int_eql _ _ _))) ?_
                  refine AL.go (OpR.plain rfl (r_assign rfl (nb rfl) (by rintro _ ⟨⟩))) ?_
                  refine AL.nil ?_
                  refine thenN ?_
                  refine AW.condb rfl (fun h10 => ?_) (fun h10 => ?_)
                  · have h10n := h10; try simp only [dtt, dff, bqi, bqf, bni, bnf, nt1, nf1, nt0, nf0, ne_eq, ilt, ile] at h10n
                    refine AW.skip ?_
                    refine thenN ?_
                    refine AW.condT rfl (h10) ?_
                    refine AW.seq ?_
                    refine AW.draw ?_
                    first | refine DW.go (OpR.plain rfl (r_fieldAddr fo_27_0 (by decide) rfl (nb rfl))) ?_ | refine DW.go (OpR.plain rfl (r_fieldAddrp fo_27_0 (by decide) rfl (nb rfl))) ?_
                    first | refine DW.go (OpR.plain rfl (r_load ti_3 rfl rfl rfl (nb rfl))) ?_ | refine DW.go (OpR.plain rfl (r_loadp ti_3 rfl rfl (nb rfl))) ?_
                    refine DW.go (OpR.plain rfl (r_callFun (op_s _) en_16 rfl rfl rfl rfl (.cons (A.le_refl _) .nil) rfl (nb rfl))) ?_
                    refine DW.go (OpR.plain rfl (r_bin rfl rfl (nb rfl) rfl (run_str_add _ _ (by first | omega | (simp only [ByteArray.size_append, sz1, sz2, sz4, sz8, sz12] at *; omega))))) ?_
                    first | refine DW.go (OpR.plain rfl (r_load ti_27 rfl rfl (by simp only [loaded, mpc, mpn, if_true, ler, tks, tkz, tkn, dps, dpz, cap, nap, apn, lnc, lnn, zad, Nat.reduceAdd, adz]; rfl) (nb rfl))) ?_ | refine DW.go (OpR.plain rfl (r_loadp ti_27 rfl (by simp only [loaded, mpc, mpn, if_true, ler, tks, tkz, tkn, dps, dpz, cap, nap, apn, lnc, lnn, zad, Nat.reduceAdd, adz]; rfl) (nb rfl))) ?_
                    refine DW.go (OpR.plain rfl (r_callFun (part_s _ _ (by omega)) en_27 rfl rfl rfl rfl (.cons (A.le_refl _) (.cons (A.le_refl _) .nil)) rfl (nb rfl))) ?_
                    refine DW.go (OpR.plain rfl (r_callId (hx (recs_of (by omega))) en_9 rfl rfl rfl rfl (.cons (A.le_refl _) .nil) rfl (.cons rfl .nil) rfl rfl rfl (nb rfl))) ?_
                    refine DW.go (OpR.plain rfl (r_bin rfl rfl (nb rfl) rfl (run_str_add _ _ (by first | omega | (simp only [ByteArray.size_append, sz1, sz2, sz4, sz8, sz12] at *; omega))))) ?_
                    refine DW.go (OpR.plain rfl (r_bin rfl rfl (nb rfl) rfl (run_str_add _ _ (by first | omega | (simp only [ByteArray.size_append, sz1, sz2, sz4, sz8, sz12] at *; omega))))) ?_
                    refine DW.go (OpR.plain rfl (r_assign rfl (nb rfl) (by rintro _ ⟨⟩))) ?_
                    refine DW.fin mixed (by kernel_rfl) (by kernel_rfl) ?_
                    refine thenN ?_
                    refine AW.ret ?_
                    refine inbR ?_
                    refine thenR ?_
                    refine fin_id (.inr rfl) (ends_of rfl (.tmp rfl .nil)) ?_ (.cons rfl (Ob.le_refl _) .nil) rfl rfl rfl rfl
                    simp only [retA]
                    refine A.le_of_eq ?_
                    rw [Ex.pr_eq e]
                    unfold prOp
                    repeat (first | rw [if_pos (by first | assumption | omega)] | rw [if_neg (by first | assumption | omega)])
                  · have h10n := h10; try simp only [dtt, dff, bqi, bqf, bni, bnf, nt1, nf1, nt0, nf0, ne_eq, ilt, ile] at h10n
                    refine AW.region ?_
                    refine AL.go (OpR.plain rfl (r_bin rfl rfl (nb rfl) rfl (run_int_eql _ _ _))) ?_
                    refine AL.go (OpR.plain rfl (r_assign rfl (nb rfl) (by rintro _ ⟨⟩))) ?_
                    refine AL.nil ?_
                    refine thenN ?_
                    refine AW.condb rfl (fun h11 => ?_) (fun h11 => ?_)
                    · have h11n := h11; try simp only [dtt, dff, bqi, bqf, bni, bnf, nt1, nf1, nt0, nf0, ne_eq, ilt, ile] at h11n
                      refine AW.seq ?_
                      refine AW.draw ?_
                      first | refine DW.go (OpR.plain rfl (r_fieldAddr fo_27_0 (by decide) rfl (nb rfl))) ?_ | refine DW.go (OpR.plain rfl (r_fieldAddrp fo_27_0 (by decide) rfl (nb rfl))) ?_
                      first | refine DW.go (OpR.plain rfl (r_load ti_3 rfl rfl rfl (nb rfl))) ?_ | refine DW.go (OpR.plain rfl (r_loadp ti_3 rfl rfl (nb rfl))) ?_
                      refine DW.go (OpR.plain rfl (r_callFun (op_s _) en_16 rfl rfl rfl rfl (.cons (A.le_refl _) .nil) rfl (nb rfl))) ?_
                      refine DW.go (OpR.plain rfl (r_bin rfl rfl (nb rfl) rfl (run_str_add _ _ (by first | omega | (simp only [ByteArray.size_append, sz1, sz2, sz4, sz8, sz12] at *; omega))))) ?_
                      first | refine DW.go (OpR.plain rfl (r_load ti_27 rfl rfl (by simp only [loaded, mpc, mpn, if_true, ler, tks, tkz, tkn, dps, dpz, cap, nap, apn, lnc, lnn, zad, Nat.reduceAdd, adz]; rfl) (nb rfl))) ?_ | refine DW.go (OpR.plain rfl (r_loadp ti_27 rfl (by simp only [loaded, mpc, mpn, if_true, ler, tks, tkz, tkn, dps, dpz, cap, nap, apn, lnc, lnn, zad, Nat.reduceAdd, adz]; rfl) (nb rfl))) ?_
                      refine DW.go (OpR.plain rfl (r_callFun (part_s _ _ (by omega)) en_27 rfl rfl rfl rfl (.cons (A.le_refl _) (.cons (A.le_refl _) .nil)) rfl (nb rfl))) ?_
                      refine DW.go (OpR.plain rfl (r_callId (hx (recs_of (by omega))) en_9 rfl rfl rfl rfl (.cons (A.le_refl _) .nil) rfl (.cons rfl .nil) rfl rfl rfl (nb rfl))) ?_
                      refine DW.go (OpR.plain rfl (r_bin rfl rfl (nb rfl) rfl (run_str_add _ _ (by first | omega | (simp only [ByteArray.size_append, sz1, sz2, sz4, sz8, sz12] at *; omega))))) ?_
                      refine DW.go (OpR.plain rfl (r_bin rfl rfl (nb rfl) rfl (run_str_add _ _ (by first | omega | (simp only [ByteArray.size_append, sz1, sz2, sz4, sz8, sz12] at *; omega))))) ?_
                      refine DW.go (OpR.plain rfl (r_assign rfl (nb rfl) (by rintro _ ⟨⟩))) ?_
                      refine DW.fin mixed (by kernel_rfl) (by kernel_rfl) ?_
                      refine thenN ?_
                      refine AW.ret ?_
                      refine inbR ?_
                      refine thenR ?_
                      refine fin_id (.inr rfl) (ends_of rfl (.tmp rfl .nil)) ?_ (.cons rfl (Ob.le_refl _) .nil) rfl rfl rfl rfl
                      simp only [retA]
                      refine A.le_of_eq ?_
                      rw [Ex.pr_eq e]
                      unfold prOp
                      repeat (first | rw [if_pos (by first | assumption | omega)] | rw [if_neg (by first | assumption | omega)])
                    · have h11n := h11; try simp only [dtt, dff, bqi, bqf, bni, bnf, nt1, nf1, nt0, nf0, ne_eq, ilt, ile] at h11n
                      refine AW.skip ?_
                      refine inbN ?_
                      refine thenN ?_
                      refine AW.seq ?_
                      refine AW.seq ?_
                      refine AW.region ?_
                      first | refine AL.go (OpR.plain rfl (r_fieldAddr fo_27_0 (by decide) rfl (nb rfl))) ?_ | refine AL.go (OpR.plain rfl (r_fieldAddrp fo_27_0 (by decide) rfl (nb rfl))) ?_
                      first | refine AL.go (OpR.plain rfl (r_load ti_3 rfl rfl rfl (nb rfl))) ?_ | refine AL.go (OpR.plain rfl (r_loadp ti_3 rfl rfl (nb rfl))) ?_
                      refine AL.go (OpR.plain rfl (r_bin rfl rfl (nb rfl) rfl (run_int_geq _ _ _))) ?_
                      refine AL.go (OpR.plain rfl (r_move rfl (nb rfl) (by rintro _ ⟨⟩))) ?_
                      refine AL.ifb (t := 60) rfl (fun h12 => ?_) (fun h12 => ?_)
                      · have h12n := h12; try simp only [dtt, dff, bqi, bqf, bni, bnf, nt1, nf1, nt0, nf0, ne_eq, ilt, ile] at h12n
                        first | refine AL.go (OpR.onb rfl rfl (nb rfl) rfl (h12) (r_fieldAddr fo_27_0 (by decide) rfl (nb rfl))) ?_ | refine AL.go (OpR.onb rfl rfl (nb rfl) rfl (h12) (r_fieldAddrp fo_27_0 (by decide) rfl (nb rfl))) ?_
                        first | refine AL.go (OpR.onb rfl rfl (nb rfl) rfl (h12) (r_load ti_3 rfl rfl rfl (nb rfl))) ?_ | refine AL.go (OpR.onb rfl rfl (nb rfl) rfl (h12) (r_loadp ti_3 rfl rfl (nb rfl))) ?_
                        refine AL.go (OpR.onb rfl rfl (nb rfl) rfl (h12) (r_bin rfl rfl (nb rfl) rfl (run_int_leq _ _ _))) ?_
                        refine AL.go (OpR.plain rfl (r_pickTb rfl (h12) rfl (nb rfl) (by rintro _ ⟨⟩))) ?_
                        refine AL.nil ?_
                        refine thenN ?_
                        refine AW.condb rfl (fun h13 => ?_) (fun h13 => ?_)
                        · have h13n := h13; try simp only [dtt, dff, bqi, bqf, bni, bnf, nt1, nf1, nt0, nf0, ne_eq, ilt, ile] at h13n
                          refine AW.seq ?_
                          refine AW.region ?_
                          first | refine AL.go (OpR.plain rfl (r_load ti_27 rfl rfl (by simp only [loaded, mpc, mpn, if_true, ler, tks, tkz, tkn, dps, dpz, cap, nap, apn, lnc, lnn, zad, Nat.reduceAdd, adz]; rfl) (nb rfl))) ?_ | refine AL.go (OpR.plain rfl (r_loadp ti_27 rfl (by simp only [loaded, mpc, mpn, if_true, ler, tks, tkz, tkn, dps, dpz, cap, nap, apn, lnc, lnn, zad, Nat.reduceAdd, adz]; rfl) (nb rfl))) ?_
                          refine AL.go (OpR.plain rfl (r_callId (two_p e hP (by omega) (hx (recs_of (by omega))) (hy (recs_of (by omega)))) en_28 rfl rfl rfl rfl (.cons (A.le_refl _) .nil) rfl (.cons rfl .nil) rfl rfl rfl (nb rfl))) ?_
                          refine AL.go (OpR.plain rfl (r_assign rfl (nb rfl) (by rintro _ ⟨⟩))) ?_
                          refine AL.nil ?_
                          refine thenN ?_
                          refine AW.ret ?_
                          refine thenR ?_
                          refine fin_id (.inr rfl) (ends_of rfl (.tmp rfl .nil)) ?_ (.cons rfl (Ob.le_refl _) .nil) rfl rfl rfl rfl
                          simp only [retA]
                          refine A.le_of_eq ?_
                          rw [Ex.pr_eq e]
                          unfold prOp
                          repeat (first | rw [if_pos (by first | assumption | omega)] | rw [if_neg (by first | assumption | omega)])
                        · have h13n := h13; try simp only [dtt, dff, bqi, bqf, bni, bnf, nt1, nf1, nt0, nf0, ne_eq, ilt, ile] at h13n
                          refine AW.skip ?_
                          refine thenN ?_
                          refine AW.seq ?_
                          refine AW.region ?_
                          refine AL.go (OpR.plain rfl (r_assign rfl (nb rfl) (by rintro _ ⟨⟩; rfl))) ?_
                          refine AL.nil ?_
                          refine thenN ?_
                          refine AW.ret ?_
                          refine fin_id (.inr rfl) (ends_of rfl (.tmp rfl .nil)) ?_ (.cons rfl (Ob.le_refl _) .nil) rfl rfl rfl rfl
                          simp only [retA]
                          refine A.le_of_eq ?_
                          rw [Ex.pr_eq e]
                          unfold prOp
                          repeat (first | rw [if_pos (by first | assumption | omega)] | rw [if_neg (by first | assumption | omega)])
                      · have h12n := h12; try simp only [dtt, dff, bqi, bqf, bni, bnf, nt1, nf1, nt0, nf0, ne_eq, ilt, ile] at h12n
                        refine AL.go (.off rfl rfl (nb rfl) rfl (by rw [h12]; decide) rfl (nb rfl)) ?_
                        refine AL.go (.off rfl rfl (nb rfl) rfl (by rw [h12]; decide) rfl (nb rfl)) ?_
                        refine AL.go (.off rfl rfl (nb rfl) rfl (by rw [h12]; decide) rfl (nb rfl)) ?_
                        refine AL.go (OpR.plain rfl (r_pickFb rfl (h12) rfl (nb rfl) (by rintro _ ⟨⟩; rfl))) ?_
                        refine AL.nil ?_
                        refine thenN ?_
                        refine AW.condF rfl (rfl) ?_
                        refine AW.skip ?_
                        refine thenN ?_
                        refine AW.seq ?_
                        refine AW.region ?_
                        refine AL.go (OpR.plain rfl (r_assign rfl (nb rfl) (by rintro _ ⟨⟩; rfl))) ?_
                        refine AL.nil ?_
                        refine thenN ?_
                        refine AW.ret ?_
                        refine fin_id (.inr rfl) (ends_of rfl (.tmp rfl .nil)) ?_ (.cons rfl (Ob.le_refl _) .nil) rfl rfl rfl rfl
                        simp only [retA]
                        refine A.le_of_eq ?_
                        rw [Ex.pr_eq e]
                        unfold prOp
                        repeat (first | rw [if_pos (by first | assumption | omega)] | rw [if_neg (by first | assumption | omega)])

end Go.Par
