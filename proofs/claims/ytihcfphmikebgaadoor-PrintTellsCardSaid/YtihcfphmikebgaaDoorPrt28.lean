import Derived.Test.YtihcfphmikebgaaDoorPrt27
namespace Go.Par
open Go Go.Am Go.Proofs Go.RowKit
set_option linter.unusedVariables false
set_option linter.unusedSimpArgs false

structure CntI (e : Ex) (b : Int) (j : Nat) (n : Int) : Prop where
  hj : j ≤ e.l.length
  lo : 1 ≤ n
  hi : n ≤ b
  eq : Ex.cnts e.l b 1 = Ex.cnts (e.l.drop j) b n
theorem CntI.next {e : Ex} {b : Int} {j : Nat} {n : Int} (h : CntI e b j n) (hj : (j : Int) < e.l.length) (hn : n < b) : CntI e b (j + 1) (n + (e.l.getD j Ex.zero).cnt (b - n)) := by
  have hc := cnt_le (e.l.getD j Ex.zero) (b - n) (by omega)
  have h1 := h.lo
  refine ⟨by omega, by omega, by omega, ?_⟩
  rw [h.eq, List.drop_eq_getElem_cons (by omega), Ex.cnts, if_pos hn]
  simp [List.getD_eq_getElem?_getD, show j < e.l.length by omega]
theorem CntI.fin {e : Ex} {b : Int} {j : Nat} {n : Int} (h : CntI e b j n) (hs : (e.l.length : Int) ≤ j ∨ b ≤ n) : Ex.cnts e.l b 1 = n := by
  rw [h.eq]
  rcases hs with hs | hs
  · rw [List.drop_eq_nil_of_le (by omega), Ex.cnts]
  · cases e.l.drop j with
    | nil => rw [Ex.cnts]
    | cons x l => rw [Ex.cnts, if_neg (by omega)]
abbrev exC (e : Ex) : List C := [.d (.v (.int .i64 e.op)), .d (.v (.string e.tab)), .d (.v (.string e.name)), .d (.v (.int .i64 e.t)), .d (.v (.int .i64 e.c)), .d (.v (.int .i64 e.val.kind)), .d (.v (.int .i64 e.val.i)), .d (.v (.string e.val.s)), .d (.sl false (Ex.rows e.l))]
theorem row_atn {l : List Ex} {i : Nat} (h : i < l.length) : (Ex.rows l)[((i : Nat) : Int).toNat]? = some [.v (.int .i64 (l.getD i Ex.zero).op), .v (.string (l.getD i Ex.zero).tab), .v (.string (l.getD i Ex.zero).name), .v (.int .i64 (l.getD i Ex.zero).t), .v (.int .i64 (l.getD i Ex.zero).c), .v (.int .i64 (l.getD i Ex.zero).val.kind), .v (.int .i64 (l.getD i Ex.zero).val.i), .v (.string (l.getD i Ex.zero).val.s), .sl false (Ex.rows (l.getD i Ex.zero).l)] := by
  rw [← Ex.row_eq]; exact getD_row (by simpa using h)

theorem en_11 : enters Tryd.prog 11 = true := by kernel_rfl
theorem en_29 : enters Tryd.prog 29 = true := by kernel_rfl

theorem cnt_p (e : Ex) (hw : WfN e) (b : Int) (hb1 : 1 ≤ b) (hb : b ≤ 1000) (ih : ∀ x ∈ e.l, ∀ c : Int, 1 ≤ c → c ≤ b → Am.Fun Tryd.prog 29 [exA x, A.i64 c] (A.i64 (x.cnt c))) : Am.Spec Tryd.prog 29 [exA e, A.i64 b] [] (A.i64 (e.cnt b)) [] := by
  refine spec_ofN (n := 45) Tryd.func29 rfl rfl (nb rfl) ?_
  show AW _ _ (⟨[(0, exA e), (1, A.i64 b)], [], []⟩ : St) _
  have hw1 := hw.tab
  have hw2 := hw.name
  have hw3 := hw.s
  have hw4 := hw.len
  rw [Ex.cnt_eq]
  refine AW.seq ?_
  refine AW.region ?_
  refine AL.go (OpR.plain rfl (r_box 101 rfl rfl rfl (nb rfl) (by rintro _ ⟨⟩))) ?_
  refine AL.go (OpR.plain rfl (r_assign rfl (nb rfl) (by rintro _ ⟨⟩; rfl))) ?_
  refine AL.nil ?_
  refine thenN ?_
  refine AW.seq ?_
  refine AW.region ?_
  refine AL.go (OpR.plain rfl (r_assign rfl (nb rfl) (by rintro _ ⟨⟩; rfl))) ?_
  refine AL.nil ?_
  refine thenN ?_
  refine AW.seq ?_
  refine AW.seq ?_
  refine AW.region ?_
  first | refine AL.go (OpR.plain rfl (r_fieldAddr fo_27_1 (by decide) rfl (nb rfl))) ?_ | refine AL.go (OpR.plain rfl (r_fieldAddrp fo_27_1 (by decide) rfl (nb rfl))) ?_
  first | refine AL.go (OpR.plain rfl (r_load ti_9 rfl rfl rfl (nb rfl))) ?_ | refine AL.go (OpR.plain rfl (r_loadp ti_9 rfl rfl (nb rfl))) ?_
  refine AL.go (OpR.plain rfl (r_lens un_9 rfl (nb rfl))) ?_
  first | refine AL.go (OpR.plain rfl (r_fieldAddr fo_27_2 (by decide) rfl (nb rfl))) ?_ | refine AL.go (OpR.plain rfl (r_fieldAddrp fo_27_2 (by decide) rfl (nb rfl))) ?_
  first | refine AL.go (OpR.plain rfl (r_load ti_9 rfl rfl rfl (nb rfl))) ?_ | refine AL.go (OpR.plain rfl (r_loadp ti_9 rfl rfl (nb rfl))) ?_
  refine AL.go (OpR.plain rfl (r_lens un_9 rfl (nb rfl))) ?_
  refine AL.go (OpR.plain rfl (r_add rfl rfl (nb rfl) (by first | omega | (simp only [rows_length] at *; omega) | (have hC := cnt_le (e.l.getD j Ex.zero) (b - n) (by omega); omega)) (by first | omega | (simp only [rows_length] at *; omega) | (have hC := cnt_le (e.l.getD j Ex.zero) (b - n) (by omega); omega)))) ?_
  first | refine AL.go (OpR.plain rfl (r_fieldAddr fo_27_5 (by decide) rfl (nb rfl))) ?_ | refine AL.go (OpR.plain rfl (r_fieldAddrp fo_27_5 (by decide) rfl (nb rfl))) ?_
  first | refine AL.go (OpR.plain rfl (r_fieldAddr fo_24_2 (by decide) rfl (nb rfl))) ?_ | refine AL.go (OpR.plain rfl (r_fieldAddrp fo_24_2 (by decide) rfl (nb rfl))) ?_
  first | refine AL.go (OpR.plain rfl (r_load ti_9 rfl rfl rfl (nb rfl))) ?_ | refine AL.go (OpR.plain rfl (r_loadp ti_9 rfl rfl (nb rfl))) ?_
  refine AL.go (OpR.plain rfl (r_lens un_9 rfl (nb rfl))) ?_
  refine AL.go (OpR.plain rfl (r_add rfl rfl (nb rfl) (by first | omega | (simp only [rows_length] at *; omega) | (have hC := cnt_le (e.l.getD j Ex.zero) (b - n) (by omega); omega)) (by first | omega | (simp only [rows_length] at *; omega) | (have hC := cnt_le (e.l.getD j Ex.zero) (b - n) (by omega); omega)))) ?_
  refine AL.go (OpR.plain rfl (r_bin rfl rfl (nb rfl) rfl (run_int_gtr _ _ _))) ?_
  refine AL.nil ?_
  refine thenN ?_
  refine AW.condb rfl (fun h1 => ?_) (fun h1 => ?_)
  · have h1n := h1; try simp only [dtt, dff, bqi, bqf, bni, bnf, nt1, nf1, nt0, nf0, ne_eq, ilt, ile, rows_length, Int.toNat_natCast] at h1n
    refine AW.seq ?_
    refine AW.region ?_
    refine AL.go (OpR.plain rfl (r_move rfl (nb rfl) (by rintro _ ⟨⟩))) ?_
    refine AL.go (OpR.plain rfl (r_assign rfl (nb rfl) (by rintro _ ⟨⟩))) ?_
    refine AL.nil ?_
    refine thenN ?_
    refine AW.ret ?_
    refine thenR ?_
    refine fin_id (.inr rfl) (ends_of rfl (.tmp rfl .nil)) ?_ .nil rfl rfl rfl rfl
    simp only [retA]
    first | (rw [if_pos (by omega)]; exact A.le_refl _) | (rw [if_neg (by omega), hI.fin (by omega)]; exact A.le_refl _)
  · have h1n := h1; try simp only [dtt, dff, bqi, bqf, bni, bnf, nt1, nf1, nt0, nf0, ne_eq, ilt, ile, rows_length, Int.toNat_natCast] at h1n
    refine AW.skip ?_
    refine thenN ?_
    refine AW.seq ?_
    refine AW.seq ?_
    refine AW.region ?_
    refine AL.go (OpR.plain rfl (r_assign rfl (nb rfl) (by rintro _ ⟨⟩; rfl))) ?_
    refine AL.nil ?_
    refine thenN ?_
    refine AW.block ?_
    refine AW.loop (ι := { x : Nat × Int // CntI e b x.1 x.2 }) (fun x => ⟨[(2, A.c (.ref 101 0)), (1, A.i64 b), (5, A.i64 x.1.2), (6, A.i64 (x.1.1 : Int))], [(101, .box (exC e))], []⟩) (fun x => e.l.length - x.1.1) ⟨(0, 1), ⟨Nat.zero_le _, by decide, hb1, rfl⟩⟩ (weakens_id (.cons rfl (A.le_of_eq (by first | rfl | (simp [A.ren, C.ren, renOf, lk]; done) | (simp [A.ren, C.ren, renOf, lk]; omega) | omega)) (.cons rfl (A.le_of_eq (by first | rfl | (simp [A.ren, C.ren, renOf, lk]; done) | (simp [A.ren, C.ren, renOf, lk]; omega) | omega)) (.cons rfl (A.le_of_eq (by first | rfl | (simp [A.ren, C.ren, renOf, lk]; done) | (simp [A.ren, C.ren, renOf, lk]; omega) | omega)) (.cons rfl (A.le_of_eq (by first | rfl | (simp [A.ren, C.ren, renOf, lk]; done) | (simp [A.ren, C.ren, renOf, lk]; omega) | omega)) .nil)))) (.cons rfl (Ob.le_refl _) .nil) rfl rfl rfl rfl) ?_
    rintro ⟨⟨j, n⟩, hI⟩
    simp only at hI
    have hIj := hI.hj; have hIl := hI.lo; have hIh := hI.hi
    show AW _ _ (⟨[(2, A.c (.ref 101 0)), (1, A.i64 b), (5, A.i64 n), (6, A.i64 (j : Int))], [(101, .box (exC e))], []⟩ : St) _
    refine AW.seq ?_
    refine AW.seq ?_
    refine AW.region ?_
    refine AL.go (OpR.plain rfl (r_move rfl (nb rfl) (by rintro _ ⟨⟩))) ?_
    first | refine AL.go (OpR.plain rfl (r_fieldAddr fo_27_6 (by decide) rfl (nb rfl))) ?_ | refine AL.go (OpR.plain rfl (r_fieldAddrp fo_27_6 (by decide) rfl (nb rfl))) ?_
    first | refine AL.go (OpR.plain rfl (r_load ti_25 rfl rfl rfl (nb rfl))) ?_ | refine AL.go (OpR.plain rfl (r_loadp ti_25 rfl rfl (nb rfl))) ?_
    refine AL.go (OpR.plain rfl (r_len un_25 rfl (by first | exact .sl | exact .own | exact .row | exact .nil) (by intro _ h; cases h) (nb rfl) (by rintro _ ⟨⟩))) ?_
    refine AL.go (OpR.plain rfl (r_bin rfl rfl (nb rfl) rfl (run_int_lss _ _ _))) ?_
    refine AL.go (OpR.plain rfl (r_move rfl (nb rfl) (by rintro _ ⟨⟩))) ?_
    refine AL.ifb (t := 26) rfl (fun h2 => ?_) (fun h2 => ?_)
    · have h2n := h2; try simp only [dtt, dff, bqi, bqf, bni, bnf, nt1, nf1, nt0, nf0, ne_eq, ilt, ile, rows_length, Int.toNat_natCast] at h2n
      refine AL.go (OpR.onb rfl rfl (nb rfl) rfl (h2) (r_move rfl (nb rfl) (by rintro _ ⟨⟩))) ?_
      refine AL.go (OpR.onb rfl rfl (nb rfl) rfl (h2) (r_move rfl (nb rfl) (by rintro _ ⟨⟩))) ?_
      refine AL.go (OpR.onb rfl rfl (nb rfl) rfl (h2) (r_bin rfl rfl (nb rfl) rfl (run_int_lss _ _ _))) ?_
      refine AL.go (OpR.plain rfl (r_pickTb rfl (h2) rfl (nb rfl) (by rintro _ ⟨⟩))) ?_
      refine AL.nil ?_
      refine thenN ?_
      refine AW.condb rfl (fun h3 => ?_) (fun h3 => ?_)
      · have h3n := h3; try simp only [dtt, dff, bqi, bqf, bni, bnf, nt1, nf1, nt0, nf0, ne_eq, ilt, ile, rows_length, Int.toNat_natCast] at h3n
        refine AW.skip ?_
        refine thenN ?_
        refine AW.seq ?_
        refine AW.block ?_
        refine AW.region ?_
        refine AL.go (OpR.plain rfl (r_move rfl (nb rfl) (by rintro _ ⟨⟩))) ?_
        first | refine AL.go (OpR.plain rfl (r_fieldAddr fo_27_6 (by decide) rfl (nb rfl))) ?_ | refine AL.go (OpR.plain rfl (r_fieldAddrp fo_27_6 (by decide) rfl (nb rfl))) ?_
        first | refine AL.go (OpR.plain rfl (r_load ti_25 rfl rfl rfl (nb rfl))) ?_ | refine AL.go (OpR.plain rfl (r_loadp ti_25 rfl rfl (nb rfl))) ?_
        refine AL.go (OpR.plain rfl (r_move rfl (nb rfl) (by rintro _ ⟨⟩))) ?_
        refine AL.go (OpR.plain rfl (r_indexAddr un_25 ti_27 rfl (by first | exact .inl rfl | exact .inr ⟨_, rfl⟩) rfl rows_len (by first | omega | (simp only [rows_length] at *; omega) | (have hC := cnt_le (e.l.getD j Ex.zero) (b - n) (by omega); omega)) (row_atn (by omega)) (nb rfl))) ?_
        first | refine AL.go (OpR.plain rfl (r_load ti_27 rfl rfl (by simp only [loaded, mpc, mpn, if_true, ler, tks, tkz, tkn, dps, dpz, cap, nap, apn, lnc, lnn, zad, Nat.reduceAdd, adz]; rfl) (nb rfl))) ?_ | refine AL.go (OpR.plain rfl (r_loadp ti_27 rfl (by simp only [loaded, mpc, mpn, if_true, ler, tks, tkz, tkn, dps, dpz, cap, nap, apn, lnc, lnn, zad, Nat.reduceAdd, adz]; rfl) (nb rfl))) ?_
        refine AL.go (OpR.plain rfl (r_move rfl (nb rfl) (by rintro _ ⟨⟩))) ?_
        refine AL.go (OpR.plain rfl (r_move rfl (nb rfl) (by rintro _ ⟨⟩))) ?_
        refine AL.go (OpR.plain rfl (r_sub rfl rfl (nb rfl) (by first | omega | (simp only [rows_length] at *; omega) | (have hC := cnt_le (e.l.getD j Ex.zero) (b - n) (by omega); omega)) (by first | omega | (simp only [rows_length] at *; omega) | (have hC := cnt_le (e.l.getD j Ex.zero) (b - n) (by omega); omega)))) ?_
        refine AL.go (OpR.plain rfl (r_callFun (ih _ (getD_in (j := j) (by omega)) (b - n) (by omega) (by omega)) en_29 rfl rfl rfl rfl (.cons (A.le_refl _) (.cons (A.le_refl _) .nil)) rfl (nb rfl))) ?_
        refine AL.go (OpR.plain rfl (r_add rfl rfl (nb rfl) (by first | omega | (simp only [rows_length] at *; omega) | (have hC := cnt_le (e.l.getD j Ex.zero) (b - n) (by omega); omega)) (by first | omega | (simp only [rows_length] at *; omega) | (have hC := cnt_le (e.l.getD j Ex.zero) (b - n) (by omega); omega)))) ?_
        refine AL.go (OpR.plain rfl (r_assign rfl (nb rfl) (by rintro _ ⟨⟩))) ?_
        refine AL.nil ?_
        refine inbN ?_
        refine thenN ?_
        refine AW.region ?_
        refine AL.go (OpR.plain rfl (r_move rfl (nb rfl) (by rintro _ ⟨⟩))) ?_
        refine AL.go (OpR.plain rfl (r_add rfl rfl (nb rfl) (by first | omega | (simp only [rows_length] at *; omega) | (have hC := cnt_le (e.l.getD j Ex.zero) (b - n) (by omega); omega)) (by first | omega | (simp only [rows_length] at *; omega) | (have hC := cnt_le (e.l.getD j Ex.zero) (b - n) (by omega); omega)))) ?_
        refine AL.go (OpR.plain rfl (r_assign rfl (nb rfl) (by rintro _ ⟨⟩))) ?_
        refine AL.nil ?_
        refine thenN ?_
        refine ⟨⟨(j + 1, n + (e.l.getD j Ex.zero).cnt (b - n)), hI.next (by omega) (by omega)⟩, by simp only; omega, weakens_id (.cons rfl (A.le_of_eq (by first | rfl | (simp [A.ren, C.ren, renOf, lk]; done) | (simp [A.ren, C.ren, renOf, lk]; omega) | omega)) (.cons rfl (A.le_of_eq (by first | rfl | (simp [A.ren, C.ren, renOf, lk]; done) | (simp [A.ren, C.ren, renOf, lk]; omega) | omega)) (.cons rfl (A.le_of_eq (by first | rfl | (simp [A.ren, C.ren, renOf, lk]; done) | (simp [A.ren, C.ren, renOf, lk]; omega) | omega)) (.cons rfl (A.le_of_eq (by first | rfl | (simp [A.ren, C.ren, renOf, lk]; done) | (simp [A.ren, C.ren, renOf, lk]; omega) | omega)) .nil)))) (.cons rfl (Ob.le_refl _) .nil) rfl rfl rfl rfl⟩
      · have h3n := h3; try simp only [dtt, dff, bqi, bqf, bni, bnf, nt1, nf1, nt0, nf0, ne_eq, ilt, ile, rows_length, Int.toNat_natCast] at h3n
        refine AW.exit ?_
        refine thenX ?_
        refine thenX ?_
        refine inbE ?_
        refine thenN ?_
        refine AW.seq ?_
        refine AW.region ?_
        refine AL.go (OpR.plain rfl (r_move rfl (nb rfl) (by rintro _ ⟨⟩))) ?_
        refine AL.go (OpR.plain rfl (r_assign rfl (nb rfl) (by rintro _ ⟨⟩))) ?_
        refine AL.nil ?_
        refine thenN ?_
        refine AW.ret ?_
        refine fin_id (.inr rfl) (ends_of rfl (.tmp rfl .nil)) ?_ .nil rfl rfl rfl rfl
        simp only [retA]
        first | (rw [if_pos (by omega)]; exact A.le_refl _) | (rw [if_neg (by omega), hI.fin (by omega)]; exact A.le_refl _)
    · have h2n := h2; try simp only [dtt, dff, bqi, bqf, bni, bnf, nt1, nf1, nt0, nf0, ne_eq, ilt, ile, rows_length, Int.toNat_natCast] at h2n
      refine AL.go (.off rfl rfl (nb rfl) rfl (by rw [h2]; decide) rfl (nb rfl)) ?_
      refine AL.go (.off rfl rfl (nb rfl) rfl (by rw [h2]; decide) rfl (nb rfl)) ?_
      refine AL.go (.off rfl rfl (nb rfl) rfl (by rw [h2]; decide) rfl (nb rfl)) ?_
      refine AL.go (OpR.plain rfl (r_pickFb rfl (h2) rfl (nb rfl) (by rintro _ ⟨⟩; rfl))) ?_
      refine AL.nil ?_
      refine thenN ?_
      refine AW.condF rfl (rfl) ?_
      refine AW.exit ?_
      refine thenX ?_
      refine thenX ?_
      refine inbE ?_
      refine thenN ?_
      refine AW.seq ?_
      refine AW.region ?_
      refine AL.go (OpR.plain rfl (r_move rfl (nb rfl) (by rintro _ ⟨⟩))) ?_
      refine AL.go (OpR.plain rfl (r_assign rfl (nb rfl) (by rintro _ ⟨⟩))) ?_
      refine AL.nil ?_
      refine thenN ?_
      refine AW.ret ?_
      refine fin_id (.inr rfl) (ends_of rfl (.tmp rfl .nil)) ?_ .nil rfl rfl rfl rfl
      simp only [retA]
      first | (rw [if_pos (by omega)]; exact A.le_refl _) | (rw [if_neg (by omega), hI.fin (by omega)]; exact A.le_refl _)

theorem cnt_all : ∀ {e : Ex}, WfT e → ∀ b : Int, 1 ≤ b → b ≤ 1000 → Am.Fun Tryd.prog 29 [exA e, A.i64 b] (A.i64 (e.cnt b)) := fun h => by
  induction h with
  | mk h hs ih => exact fun b h1 h2 => cnt_p _ h b h1 h2 fun x hx c hc1 hc2 => ih x hx c hc1 (by omega)
def noneMuch (l : List Ex) (i : Nat) : Prop := i ≤ l.length ∧ ∀ j, j < i → much (l.getD j Ex.zero) = false
theorem noneMuch.next {l : List Ex} {i : Nat} (h : noneMuch l i) (hi : (i : Int) < l.length) (hm : much (l.getD i Ex.zero) = false) : noneMuch l (i + 1) := ⟨by omega, fun j hj => by
  by_cases e : j = i
  · rw [e]; exact hm
  · exact h.2 j (by omega)⟩
theorem noneMuch.fin {l : List Ex} {i : Nat} (h : noneMuch l i) (hi : (l.length : Int) ≤ i) : l.any much = false := by
  rw [List.any_eq_false]
  intro x hx
  obtain ⟨j, hj, rfl⟩ := List.getElem_of_mem hx
  have := h.2 j (by omega)
  simp only [List.getD_eq_getElem?_getD, List.getElem?_eq_getElem hj, Option.getD_some] at this
  simp [this]
theorem any_much {l : List Ex} {i : Nat} (hi : (i : Int) < l.length) (hm : much (l.getD i Ex.zero) = true) : l.any much = true := List.any_eq_true.2 ⟨_, getD_in (by omega), hm⟩
def noneMuchF (l : List Fr) (i : Nat) : Prop := i ≤ l.length ∧ ∀ j, j < i → muchF (l.getD j Fr.zero) = false
theorem noneMuchF.next {l : List Fr} {i : Nat} (h : noneMuchF l i) (hi : (i : Int) < l.length) (hm : muchF (l.getD i Fr.zero) = false) : noneMuchF l (i + 1) := ⟨by omega, fun j hj => by
  by_cases e : j = i
  · rw [e]; exact hm
  · exact h.2 j (by omega)⟩
theorem noneMuchF.fin {l : List Fr} {i : Nat} (h : noneMuchF l i) (hi : (l.length : Int) ≤ i) : l.any muchF = false := by
  rw [List.any_eq_false]
  intro x hx
  obtain ⟨j, hj, rfl⟩ := List.getElem_of_mem hx
  have := h.2 j (by omega)
  simp only [List.getD_eq_getElem?_getD, List.getElem?_eq_getElem hj, Option.getD_some] at this
  simp [this]
theorem getD_inF {l : List Fr} {j : Nat} (h : j < l.length) : l.getD j Fr.zero ∈ l := by simp [List.getD_eq_getElem?_getD, h]
theorem any_muchF {l : List Fr} {i : Nat} (hi : (i : Int) < l.length) (hm : muchF (l.getD i Fr.zero) = true) : l.any muchF = true := List.any_eq_true.2 ⟨_, getD_inF (by omega), hm⟩
theorem wfQ_frm {q : Qy} (h : WfQ q) {i : Nat} (hi : i < q.frm.length) : WfT (q.frm.getD i Fr.zero).on ∧ (q.frm.getD i Fr.zero).table.size ≤ 1000000000000000 ∧ (q.frm.getD i Fr.zero).as_.size ≤ 1000000000000000 := h.frm _ (getD_inF hi)

theorem much_p (e : Ex) (hw : WfT e) : Am.Spec Tryd.prog 11 [exA e] [] (A.bool (much e)) [] := by
  refine spec_ofN (n := 8) Tryd.func11 rfl rfl (nb rfl) ?_
  show AW _ _ (⟨[(0, exA e)], [], []⟩ : St) _
  refine AW.seq ?_
  refine AW.region ?_
  refine AL.go (OpR.plain rfl (r_box 101 rfl rfl rfl (nb rfl) (by rintro _ ⟨⟩))) ?_
  refine AL.go (OpR.plain rfl (r_assign rfl (nb rfl) (by rintro _ ⟨⟩; rfl))) ?_
  refine AL.nil ?_
  refine thenN ?_
  refine AW.seq ?_
  refine AW.region ?_
  first | refine AL.go (OpR.plain rfl (r_load ti_27 rfl rfl (by simp only [loaded, mpc, mpn, if_true, ler, tks, tkz, tkn, dps, dpz, cap, nap, apn, lnc, lnn, zad, Nat.reduceAdd, adz]; rfl) (nb rfl))) ?_ | refine AL.go (OpR.plain rfl (r_loadp ti_27 rfl (by simp only [loaded, mpc, mpn, if_true, ler, tks, tkz, tkn, dps, dpz, cap, nap, apn, lnc, lnn, zad, Nat.reduceAdd, adz]; rfl) (nb rfl))) ?_
  refine AL.go (OpR.plain rfl (r_callFun (cnt_all hw 400 (by decide) (by decide)) en_29 rfl rfl rfl rfl (.cons (A.le_refl _) (.cons (A.le_refl _) .nil)) rfl (nb rfl))) ?_
  refine AL.go (OpR.plain rfl (r_assign rfl (nb rfl) (by rintro _ ⟨⟩))) ?_
  refine AL.nil ?_
  refine thenN ?_
  refine AW.seq ?_
  refine AW.region ?_
  refine AL.go (OpR.plain rfl (r_move rfl (nb rfl) (by rintro _ ⟨⟩))) ?_
  refine AL.go (OpR.plain rfl (r_bin rfl rfl (nb rfl) rfl (run_int_gtr _ _ _))) ?_
  refine AL.go (OpR.plain rfl (r_assign rfl (nb rfl) (by rintro _ ⟨⟩))) ?_
  refine AL.nil ?_
  refine thenN ?_
  refine AW.ret ?_
  refine fin_id (.inr rfl) (ends_of rfl (.tmp rfl .nil)) ?_ .nil rfl rfl rfl rfl
  simp only [retA]
  exact A.le_refl _

set_option maxHeartbeats 2000000 in
theorem muchq_p (q : Qy) (hQ : WfQ q) : Am.Spec Tryd.prog 12 [qyA q] [] (A.bool (muchQ q)) [] := by
  refine spec_ofN (n := 85) Tryd.func12 rfl rfl (nb rfl) ?_
  show AW _ _ (⟨[(0, qyA q)], [], []⟩ : St) _
  have hil := hQ.il
  have hgl := hQ.gl
  have hfl := hQ.fl
  refine AW.seq ?_
  refine AW.region ?_
  refine AL.go (OpR.plain rfl (r_box 101 rfl rfl rfl (nb rfl) (by rintro _ ⟨⟩))) ?_
  refine AL.go (OpR.plain rfl (r_assign rfl (nb rfl) (by rintro _ ⟨⟩; rfl))) ?_
  refine AL.nil ?_
  refine thenN ?_
  refine AW.seq ?_
  refine AW.seq ?_
  refine AW.region ?_
  first | refine AL.go (OpR.plain rfl (r_fieldAddr fo_37_0 (by decide) rfl (nb rfl))) ?_ | refine AL.go (OpR.plain rfl (r_fieldAddrp fo_37_0 (by decide) rfl (nb rfl))) ?_
  first | refine AL.go (OpR.plain rfl (r_load ti_25 rfl rfl rfl (nb rfl))) ?_ | refine AL.go (OpR.plain rfl (r_loadp ti_25 rfl rfl (nb rfl))) ?_
  refine AL.go (OpR.plain rfl (r_len un_25 rfl (by first | exact .sl | exact .own | exact .row | exact .nil) (by intro _ h; cases h) (nb rfl) (by rintro _ ⟨⟩))) ?_
  refine AL.go (OpR.plain rfl (r_bin rfl rfl (nb rfl) rfl (run_int_gtr _ _ _))) ?_
  refine AL.go (OpR.plain rfl (r_move rfl (nb rfl) (by rintro _ ⟨⟩))) ?_
  refine AL.ifb (t := 10) rfl (fun h1 => ?_) (fun h1 => ?_)
  · have h1n := h1; try simp only [dtt, dff, bqi, bqf, bni, bnf, nt1, nf1, nt0, nf0, ne_eq, ilt, ile, rows_length, Int.toNat_natCast, List.length_map] at h1n
    refine AL.go (.off rfl rfl (nb rfl) rfl (by rw [h1]; decide) rfl (nb rfl)) ?_
    refine AL.go (.off rfl rfl (nb rfl) rfl (by rw [h1]; decide) rfl (nb rfl)) ?_
    refine AL.go (.off rfl rfl (nb rfl) rfl (by rw [h1]; decide) rfl (nb rfl)) ?_
    refine AL.go (.off rfl rfl (nb rfl) rfl (by rw [h1]; decide) rfl (nb rfl)) ?_
    refine AL.go (OpR.plain rfl (r_pickTb rfl (h1) rfl (nb rfl) (by rintro _ ⟨⟩; rfl))) ?_
    refine AL.go (OpR.plain rfl (r_move rfl (nb rfl) (by rintro _ ⟨⟩))) ?_
    refine AL.go (.off rfl rfl (nb rfl) rfl (by decide) rfl (nb rfl)) ?_
    refine AL.go (.off rfl rfl (nb rfl) rfl (by decide) rfl (nb rfl)) ?_
    refine AL.go (.off rfl rfl (nb rfl) rfl (by decide) rfl (nb rfl)) ?_
    refine AL.go (.off rfl rfl (nb rfl) rfl (by decide) rfl (nb rfl)) ?_
    refine AL.go (OpR.plain rfl (r_pickTb rfl (rfl) rfl (nb rfl) (by rintro _ ⟨⟩; rfl))) ?_
    refine AL.go (OpR.plain rfl (r_move rfl (nb rfl) (by rintro _ ⟨⟩))) ?_
    refine AL.go (.off rfl rfl (nb rfl) rfl (by decide) rfl (nb rfl)) ?_
    refine AL.go (.off rfl rfl (nb rfl) rfl (by decide) rfl (nb rfl)) ?_
    refine AL.go (.off rfl rfl (nb rfl) rfl (by decide) rfl (nb rfl)) ?_
    refine AL.go (OpR.plain rfl (r_pickTb rfl (rfl) rfl (nb rfl) (by rintro _ ⟨⟩; rfl))) ?_
    refine AL.nil ?_
    refine thenN ?_
    refine AW.condT rfl (rfl) ?_
    refine AW.seq ?_
    refine AW.region ?_
    refine AL.go (OpR.plain rfl (r_assign rfl (nb rfl) (by rintro _ ⟨⟩; rfl))) ?_
    refine AL.nil ?_
    refine thenN ?_
    refine AW.ret ?_
    refine thenR ?_
    refine fin_id (.inr rfl) (ends_of rfl (.tmp rfl .nil)) ?_ .nil rfl rfl rfl rfl
    simp only [retA]
    refine A.le_of_eq ?_
    unfold muchQ
    first | (rw [show decide (20 < q.items.length) = true from decide_eq_true (by omega)]; simp; done) | (rw [show decide (12 < q.frm.length) = true from decide_eq_true (by omega)]; simp; done) | (rw [show decide (12 < q.group.length) = true from decide_eq_true (by omega)]; simp; done) | (rw [show much q.whr = true by assumption]; simp; done) | (rw [any_much (l := q.items) (by omega) (by assumption)]; simp; done) | (rw [any_much (l := q.group) (by omega) (by assumption)]; simp; done) | (rw [any_muchF (l := q.frm) (by omega) (by simp only [muchF, Bool.or_eq_true, dtt]; first | (left; assumption) | (right; omega))]; simp; done) | (rw [show decide (20 < q.items.length) = false from decide_eq_false (by omega), show decide (12 < q.frm.length) = false from decide_eq_false (by omega), show decide (12 < q.group.length) = false from decide_eq_false (by omega), show much q.whr = false by assumption, noneMuch.fin ‹noneMuch q.items _› (by omega), noneMuch.fin ‹noneMuch q.group _› (by omega), noneMuchF.fin ‹noneMuchF q.frm _› (by omega)]; rfl)
  · have h1n := h1; try simp only [dtt, dff, bqi, bqf, bni, bnf, nt1, nf1, nt0, nf0, ne_eq, ilt, ile, rows_length, Int.toNat_natCast, List.length_map] at h1n
    first | refine AL.go (OpR.onb rfl rfl (nb rfl) rfl (h1) (r_fieldAddr fo_37_1 (by decide) rfl (nb rfl))) ?_ | refine AL.go (OpR.onb rfl rfl (nb rfl) rfl (h1) (r_fieldAddrp fo_37_1 (by decide) rfl (nb rfl))) ?_
    first | refine AL.go (OpR.onb rfl rfl (nb rfl) rfl (h1) (r_load ti_35 rfl rfl rfl (nb rfl))) ?_ | refine AL.go (OpR.onb rfl rfl (nb rfl) rfl (h1) (r_loadp ti_35 rfl rfl (nb rfl))) ?_
    refine AL.go (OpR.onb rfl rfl (nb rfl) rfl (h1) (r_len un_35 rfl (by first | exact .sl | exact .own | exact .row | exact .nil) (by intro _ h; cases h) (nb rfl) (by rintro _ ⟨⟩))) ?_
    refine AL.go (OpR.onb rfl rfl (nb rfl) rfl (h1) (r_bin rfl rfl (nb rfl) rfl (run_int_gtr _ _ _))) ?_
    refine AL.go (OpR.plain rfl (r_pickFb rfl (h1) rfl (nb rfl) (by rintro _ ⟨⟩))) ?_
    refine AL.go (OpR.plain rfl (r_move rfl (nb rfl) (by rintro _ ⟨⟩))) ?_
    refine AL.ifb (t := 16) rfl (fun h2 => ?_) (fun h2 => ?_)
    · have h2n := h2; try simp only [dtt, dff, bqi, bqf, bni, bnf, nt1, nf1, nt0, nf0, ne_eq, ilt, ile, rows_length, Int.toNat_natCast, List.length_map] at h2n
      refine AL.go (.off rfl rfl (nb rfl) rfl (by rw [h2]; decide) rfl (nb rfl)) ?_
      refine AL.go (.off rfl rfl (nb rfl) rfl (by rw [h2]; decide) rfl (nb rfl)) ?_
      refine AL.go (.off rfl rfl (nb rfl) rfl (by rw [h2]; decide) rfl (nb rfl)) ?_
      refine AL.go (.off rfl rfl (nb rfl) rfl (by rw [h2]; decide) rfl (nb rfl)) ?_
      refine AL.go (OpR.plain rfl (r_pickTb rfl (h2) rfl (nb rfl) (by rintro _ ⟨⟩; rfl))) ?_
      refine AL.go (OpR.plain rfl (r_move rfl (nb rfl) (by rintro _ ⟨⟩))) ?_
      refine AL.go (.off rfl rfl (nb rfl) rfl (by decide) rfl (nb rfl)) ?_
      refine AL.go (.off rfl rfl (nb rfl) rfl (by decide) rfl (nb rfl)) ?_
      refine AL.go (.off rfl rfl (nb rfl) rfl (by decide) rfl (nb rfl)) ?_
      refine AL.go (OpR.plain rfl (r_pickTb rfl (rfl) rfl (nb rfl) (by rintro _ ⟨⟩; rfl))) ?_
      refine AL.nil ?_
      refine thenN ?_
      refine AW.condT rfl (rfl) ?_
      refine AW.seq ?_
      refine AW.region ?_
      refine AL.go (OpR.plain rfl (r_assign rfl (nb rfl) (by rintro _ ⟨⟩; rfl))) ?_
      refine AL.nil ?_
      refine thenN ?_
      refine AW.ret ?_
      refine thenR ?_
      refine fin_id (.inr rfl) (ends_of rfl (.tmp rfl .nil)) ?_ .nil rfl rfl rfl rfl
      simp only [retA]
      refine A.le_of_eq ?_
      unfold muchQ
      first | (rw [show decide (20 < q.items.length) = true from decide_eq_true (by omega)]; simp; done) | (rw [show decide (12 < q.frm.length) = true from decide_eq_true (by omega)]; simp; done) | (rw [show decide (12 < q.group.length) = true from decide_eq_true (by omega)]; simp; done) | (rw [show much q.whr = true by assumption]; simp; done) | (rw [any_much (l := q.items) (by omega) (by assumption)]; simp; done) | (rw [any_much (l := q.group) (by omega) (by assumption)]; simp; done) | (rw [any_muchF (l := q.frm) (by omega) (by simp only [muchF, Bool.or_eq_true, dtt]; first | (left; assumption) | (right; omega))]; simp; done) | (rw [show decide (20 < q.items.length) = false from decide_eq_false (by omega), show decide (12 < q.frm.length) = false from decide_eq_false (by omega), show decide (12 < q.group.length) = false from decide_eq_false (by omega), show much q.whr = false by assumption, noneMuch.fin ‹noneMuch q.items _› (by omega), noneMuch.fin ‹noneMuch q.group _› (by omega), noneMuchF.fin ‹noneMuchF q.frm _› (by omega)]; rfl)
    · have h2n := h2; try simp only [dtt, dff, bqi, bqf, bni, bnf, nt1, nf1, nt0, nf0, ne_eq, ilt, ile, rows_length, Int.toNat_natCast, List.length_map] at h2n
      first | refine AL.go (OpR.onb rfl rfl (nb rfl) rfl (h2) (r_fieldAddr fo_37_3 (by decide) rfl (nb rfl))) ?_ | refine AL.go (OpR.onb rfl rfl (nb rfl) rfl (h2) (r_fieldAddrp fo_37_3 (by decide) rfl (nb rfl))) ?_
      first | refine AL.go (OpR.onb rfl rfl (nb rfl) rfl (h2) (r_load ti_25 rfl rfl rfl (nb rfl))) ?_ | refine AL.go (OpR.onb rfl rfl (nb rfl) rfl (h2) (r_loadp ti_25 rfl rfl (nb rfl))) ?_
      refine AL.go (OpR.onb rfl rfl (nb rfl) rfl (h2) (r_len un_25 rfl (by first | exact .sl | exact .own | exact .row | exact .nil) (by intro _ h; cases h) (nb rfl) (by rintro _ ⟨⟩))) ?_
      refine AL.go (OpR.onb rfl rfl (nb rfl) rfl (h2) (r_bin rfl rfl (nb rfl) rfl (run_int_gtr _ _ _))) ?_
      refine AL.go (OpR.plain rfl (r_pickFb rfl (h2) rfl (nb rfl) (by rintro _ ⟨⟩))) ?_
      refine AL.go (OpR.plain rfl (r_move rfl (nb rfl) (by rintro _ ⟨⟩))) ?_
      refine AL.ifb (t := 22) rfl (fun h3 => ?_) (fun h3 => ?_)
      · have h3n := h3; try simp only [dtt, dff, bqi, bqf, bni, bnf, nt1, nf1, nt0, nf0, ne_eq, ilt, ile, rows_length, Int.toNat_natCast, List.length_map] at h3n
        refine AL.go (.off rfl rfl (nb rfl) rfl (by rw [h3]; decide) rfl (nb rfl)) ?_
        refine AL.go (.off rfl rfl (nb rfl) rfl (by rw [h3]; decide) rfl (nb rfl)) ?_
        refine AL.go (.off rfl rfl (nb rfl) rfl (by rw [h3]; decide) rfl (nb rfl)) ?_
        refine AL.go (OpR.plain rfl (r_pickTb rfl (h3) rfl (nb rfl) (by rintro _ ⟨⟩; rfl))) ?_
        refine AL.nil ?_
        refine thenN ?_
        refine AW.condT rfl (rfl) ?_
        refine AW.seq ?_
        refine AW.region ?_
        refine AL.go (OpR.plain rfl (r_assign rfl (nb rfl) (by rintro _ ⟨⟩; rfl))) ?_
        refine AL.nil ?_
        refine thenN ?_
        refine AW.ret ?_
        refine thenR ?_
        refine fin_id (.inr rfl) (ends_of rfl (.tmp rfl .nil)) ?_ .nil rfl rfl rfl rfl
        simp only [retA]
        refine A.le_of_eq ?_
        unfold muchQ
        first | (rw [show decide (20 < q.items.length) = true from decide_eq_true (by omega)]; simp; done) | (rw [show decide (12 < q.frm.length) = true from decide_eq_true (by omega)]; simp; done) | (rw [show decide (12 < q.group.length) = true from decide_eq_true (by omega)]; simp; done) | (rw [show much q.whr = true by assumption]; simp; done) | (rw [any_much (l := q.items) (by omega) (by assumption)]; simp; done) | (rw [any_much (l := q.group) (by omega) (by assumption)]; simp; done) | (rw [any_muchF (l := q.frm) (by omega) (by simp only [muchF, Bool.or_eq_true, dtt]; first | (left; assumption) | (right; omega))]; simp; done) | (rw [show decide (20 < q.items.length) = false from decide_eq_false (by omega), show decide (12 < q.frm.length) = false from decide_eq_false (by omega), show decide (12 < q.group.length) = false from decide_eq_false (by omega), show much q.whr = false by assumption, noneMuch.fin ‹noneMuch q.items _› (by omega), noneMuch.fin ‹noneMuch q.group _› (by omega), noneMuchF.fin ‹noneMuchF q.frm _› (by omega)]; rfl)
      · have h3n := h3; try simp only [dtt, dff, bqi, bqf, bni, bnf, nt1, nf1, nt0, nf0, ne_eq, ilt, ile, rows_length, Int.toNat_natCast, List.length_map] at h3n
        first | refine AL.go (OpR.onb rfl rfl (nb rfl) rfl (h3) (r_fieldAddr fo_37_2 (by decide) rfl (nb rfl))) ?_ | refine AL.go (OpR.onb rfl rfl (nb rfl) rfl (h3) (r_fieldAddrp fo_37_2 (by decide) rfl (nb rfl))) ?_
        first | refine AL.go (OpR.onb rfl rfl (nb rfl) rfl (h3) (r_load ti_27 rfl rfl (by simp only [loaded, mpc, mpn, if_true, ler, tks, tkz, tkn, dps, dpz, cap, nap, apn, lnc, lnn, zad, Nat.reduceAdd, adz]; rfl) (nb rfl))) ?_ | refine AL.go (OpR.onb rfl rfl (nb rfl) rfl (h3) (r_loadp ti_27 rfl (by simp only [loaded, mpc, mpn, if_true, ler, tks, tkz, tkn, dps, dpz, cap, nap, apn, lnc, lnn, zad, Nat.reduceAdd, adz]; rfl) (nb rfl))) ?_
        refine AL.go (OpR.onb rfl rfl (nb rfl) rfl (h3) (r_callFun (much_p _ hQ.whr) en_11 rfl rfl rfl rfl (.cons (A.le_refl _) .nil) rfl (nb rfl))) ?_
        refine AL.go (OpR.plain rfl (r_pickFb rfl (h3) rfl (nb rfl) (by rintro _ ⟨⟩))) ?_
        refine AL.nil ?_
        refine thenN ?_
        refine AW.condb rfl (fun h4 => ?_) (fun h4 => ?_)
        · have h4n := h4; try simp only [dtt, dff, bqi, bqf, bni, bnf, nt1, nf1, nt0, nf0, ne_eq, ilt, ile, rows_length, Int.toNat_natCast, List.length_map] at h4n
          refine AW.seq ?_
          refine AW.region ?_
          refine AL.go (OpR.plain rfl (r_assign rfl (nb rfl) (by rintro _ ⟨⟩; rfl))) ?_
          refine AL.nil ?_
          refine thenN ?_
          refine AW.ret ?_
          refine thenR ?_
          refine fin_id (.inr rfl) (ends_of rfl (.tmp rfl .nil)) ?_ .nil rfl rfl rfl rfl
          simp only [retA]
          refine A.le_of_eq ?_
          unfold muchQ
          first | (rw [show decide (20 < q.items.length) = true from decide_eq_true (by omega)]; simp; done) | (rw [show decide (12 < q.frm.length) = true from decide_eq_true (by omega)]; simp; done) | (rw [show decide (12 < q.group.length) = true from decide_eq_true (by omega)]; simp; done) | (rw [show much q.whr = true by assumption]; simp; done) | (rw [any_much (l := q.items) (by omega) (by assumption)]; simp; done) | (rw [any_much (l := q.group) (by omega) (by assumption)]; simp; done) | (rw [any_muchF (l := q.frm) (by omega) (by simp only [muchF, Bool.or_eq_true, dtt]; first | (left; assumption) | (right; omega))]; simp; done) | (rw [show decide (20 < q.items.length) = false from decide_eq_false (by omega), show decide (12 < q.frm.length) = false from decide_eq_false (by omega), show decide (12 < q.group.length) = false from decide_eq_false (by omega), show much q.whr = false by assumption, noneMuch.fin ‹noneMuch q.items _› (by omega), noneMuch.fin ‹noneMuch q.group _› (by omega), noneMuchF.fin ‹noneMuchF q.frm _› (by omega)]; rfl)
        · have h4n := h4; try simp only [dtt, dff, bqi, bqf, bni, bnf, nt1, nf1, nt0, nf0, ne_eq, ilt, ile, rows_length, Int.toNat_natCast, List.length_map] at h4n
          refine AW.skip ?_
          refine thenN ?_
          refine AW.seq ?_
          refine AW.seq ?_
          refine AW.region ?_
          refine AL.go (OpR.plain rfl (r_assign rfl (nb rfl) (by rintro _ ⟨⟩; rfl))) ?_
          refine AL.nil ?_
          refine thenN ?_
          refine AW.block ?_
          refine AW.loop (ι := { x : Nat // noneMuch q.items x }) (fun x => ⟨[(1, A.c (.ref 101 0)), (3, A.i64 (x.1 : Int))], [(101, .box (qyC q))], []⟩) (fun x => q.items.length - x.1) ⟨0, ⟨Nat.zero_le _, by intro j hj; omega⟩⟩ (weakens_id (.cons rfl (A.le_of_eq (by first | rfl | (simp [A.ren, C.ren, renOf, lk]; done) | (simp [A.ren, C.ren, renOf, lk]; omega) | omega)) (.cons rfl (A.le_of_eq (by first | rfl | (simp [A.ren, C.ren, renOf, lk]; done) | (simp [A.ren, C.ren, renOf, lk]; omega) | omega)) .nil)) (.cons rfl (Ob.le_refl _) .nil) rfl rfl rfl rfl) ?_
          rintro ⟨i, hI⟩
          have hI1 := hI.1
          show AW _ _ (⟨[(1, A.c (.ref 101 0)), (3, A.i64 (i : Int))], [(101, .box (qyC q))], []⟩ : St) _
          refine AW.seq ?_
          refine AW.seq ?_
          refine AW.region ?_
          refine AL.go (OpR.plain rfl (r_move rfl (nb rfl) (by rintro _ ⟨⟩))) ?_
          first | refine AL.go (OpR.plain rfl (r_fieldAddr fo_37_0 (by decide) rfl (nb rfl))) ?_ | refine AL.go (OpR.plain rfl (r_fieldAddrp fo_37_0 (by decide) rfl (nb rfl))) ?_
          first | refine AL.go (OpR.plain rfl (r_load ti_25 rfl rfl rfl (nb rfl))) ?_ | refine AL.go (OpR.plain rfl (r_loadp ti_25 rfl rfl (nb rfl))) ?_
          refine AL.go (OpR.plain rfl (r_len un_25 rfl (by first | exact .sl | exact .own | exact .row | exact .nil) (by intro _ h; cases h) (nb rfl) (by rintro _ ⟨⟩))) ?_
          refine AL.go (OpR.plain rfl (r_bin rfl rfl (nb rfl) rfl (run_int_lss _ _ _))) ?_
          refine AL.nil ?_
          refine thenN ?_
          refine AW.condb rfl (fun h5 => ?_) (fun h5 => ?_)
          · have h5n := h5; try simp only [dtt, dff, bqi, bqf, bni, bnf, nt1, nf1, nt0, nf0, ne_eq, ilt, ile, rows_length, Int.toNat_natCast, List.length_map] at h5n
            refine AW.skip ?_
            refine thenN ?_
            refine AW.seq ?_
            refine AW.block ?_
            refine AW.seq ?_
            refine AW.region ?_
            first | refine AL.go (OpR.plain rfl (r_fieldAddr fo_37_0 (by decide) rfl (nb rfl))) ?_ | refine AL.go (OpR.plain rfl (r_fieldAddrp fo_37_0 (by decide) rfl (nb rfl))) ?_
            first | refine AL.go (OpR.plain rfl (r_load ti_25 rfl rfl rfl (nb rfl))) ?_ | refine AL.go (OpR.plain rfl (r_loadp ti_25 rfl rfl (nb rfl))) ?_
            refine AL.go (OpR.plain rfl (r_move rfl (nb rfl) (by rintro _ ⟨⟩))) ?_
            refine AL.go (OpR.plain rfl (r_indexAddr un_25 ti_27 rfl (.inl rfl) rfl rows_len (by omega) (row_atn (by omega)) (nb rfl))) ?_
            first | refine AL.go (OpR.plain rfl (r_load ti_27 rfl rfl (by simp only [loaded, mpc, mpn, if_true, ler, tks, tkz, tkn, dps, dpz, cap, nap, apn, lnc, lnn, zad, Nat.reduceAdd, adz]; rfl) (nb rfl))) ?_ | refine AL.go (OpR.plain rfl (r_loadp ti_27 rfl (by simp only [loaded, mpc, mpn, if_true, ler, tks, tkz, tkn, dps, dpz, cap, nap, apn, lnc, lnn, zad, Nat.reduceAdd, adz]; rfl) (nb rfl))) ?_
            refine AL.go (OpR.plain rfl (r_callFun (much_p _ (hQ.items _ (getD_in (j := i) (by omega)))) en_11 rfl rfl rfl rfl (.cons (A.le_refl _) .nil) rfl (nb rfl))) ?_
            refine AL.nil ?_
            refine thenN ?_
            refine AW.condb rfl (fun h6 => ?_) (fun h6 => ?_)
            · have h6n := h6; try simp only [dtt, dff, bqi, bqf, bni, bnf, nt1, nf1, nt0, nf0, ne_eq, ilt, ile, rows_length, Int.toNat_natCast, List.length_map] at h6n
              refine AW.seq ?_
              refine AW.region ?_
              refine AL.go (OpR.plain rfl (r_assign rfl (nb rfl) (by rintro _ ⟨⟩; rfl))) ?_
              refine AL.nil ?_
              refine thenN ?_
              refine AW.ret ?_
              refine inbR ?_
              refine thenR ?_
              refine thenR ?_
              refine inbR ?_
              refine thenR ?_
              refine fin_id (.inr rfl) (ends_of rfl (.tmp rfl .nil)) ?_ .nil rfl rfl rfl rfl
              simp only [retA]
              refine A.le_of_eq ?_
              unfold muchQ
              first | (rw [show decide (20 < q.items.length) = true from decide_eq_true (by omega)]; simp; done) | (rw [show decide (12 < q.frm.length) = true from decide_eq_true (by omega)]; simp; done) | (rw [show decide (12 < q.group.length) = true from decide_eq_true (by omega)]; simp; done) | (rw [show much q.whr = true by assumption]; simp; done) | (rw [any_much (l := q.items) (by omega) (by assumption)]; simp; done) | (rw [any_much (l := q.group) (by omega) (by assumption)]; simp; done) | (rw [any_muchF (l := q.frm) (by omega) (by simp only [muchF, Bool.or_eq_true, dtt]; first | (left; assumption) | (right; omega))]; simp; done) | (rw [show decide (20 < q.items.length) = false from decide_eq_false (by omega), show decide (12 < q.frm.length) = false from decide_eq_false (by omega), show decide (12 < q.group.length) = false from decide_eq_false (by omega), show much q.whr = false by assumption, noneMuch.fin ‹noneMuch q.items _› (by omega), noneMuch.fin ‹noneMuch q.group _› (by omega), noneMuchF.fin ‹noneMuchF q.frm _› (by omega)]; rfl)
            · have h6n := h6; try simp only [dtt, dff, bqi, bqf, bni, bnf, nt1, nf1, nt0, nf0, ne_eq, ilt, ile, rows_length, Int.toNat_natCast, List.length_map] at h6n
              refine AW.skip ?_
              refine inbN ?_
              refine thenN ?_
              refine AW.region ?_
              refine AL.go (OpR.plain rfl (r_move rfl (nb rfl) (by rintro _ ⟨⟩))) ?_
              refine AL.go (OpR.plain rfl (r_add rfl rfl (nb rfl) (by first | omega | (have hF := wfQ_frm hQ (i := i) (by omega); omega)) (by first | omega | (have hF := wfQ_frm hQ (i := i) (by omega); omega)))) ?_
              refine AL.go (OpR.plain rfl (r_assign rfl (nb rfl) (by rintro _ ⟨⟩))) ?_
              refine AL.nil ?_
              refine thenN ?_
              refine ⟨⟨i + 1, hI.next (by omega) (by assumption)⟩, by simp only; omega, weakens_id (.cons rfl (A.le_of_eq (by first | rfl | (simp [A.ren, C.ren, renOf, lk]; done) | (simp [A.ren, C.ren, renOf, lk]; omega) | omega)) (.cons rfl (A.le_of_eq (by first | rfl | (simp [A.ren, C.ren, renOf, lk]; done) | (simp [A.ren, C.ren, renOf, lk]; omega) | omega)) .nil)) (.cons rfl (Ob.le_refl _) .nil) rfl rfl rfl rfl⟩
          · have h5n := h5; try simp only [dtt, dff, bqi, bqf, bni, bnf, nt1, nf1, nt0, nf0, ne_eq, ilt, ile, rows_length, Int.toNat_natCast, List.length_map] at h5n
            refine AW.exit ?_
            refine thenX ?_
            refine thenX ?_
            refine inbE ?_
            refine thenN ?_
            refine AW.seq ?_
            refine AW.seq ?_
            refine AW.region ?_
            refine AL.go (OpR.plain rfl (r_assign rfl (nb rfl) (by rintro _ ⟨⟩; rfl))) ?_
            refine AL.nil ?_
            refine thenN ?_
            refine AW.block ?_
            refine AW.loop (ι := { x : Nat // noneMuch q.group x }) (fun x => ⟨[(1, A.c (.ref 101 0)), (4, A.i64 (x.1 : Int))], [(101, .box (qyC q))], []⟩) (fun x => q.group.length - x.1) ⟨0, ⟨Nat.zero_le _, by intro j hj; omega⟩⟩ (weakens_id (.cons rfl (A.le_of_eq (by first | rfl | (simp [A.ren, C.ren, renOf, lk]; done) | (simp [A.ren, C.ren, renOf, lk]; omega) | omega)) (.cons rfl (A.le_of_eq (by first | rfl | (simp [A.ren, C.ren, renOf, lk]; done) | (simp [A.ren, C.ren, renOf, lk]; omega) | omega)) .nil)) (.cons rfl (Ob.le_refl _) .nil) rfl rfl rfl rfl) ?_
            rintro ⟨i, hI⟩
            have hI1 := hI.1
            show AW _ _ (⟨[(1, A.c (.ref 101 0)), (4, A.i64 (i : Int))], [(101, .box (qyC q))], []⟩ : St) _
            refine AW.seq ?_
            refine AW.seq ?_
            refine AW.region ?_
            refine AL.go (OpR.plain rfl (r_move rfl (nb rfl) (by rintro _ ⟨⟩))) ?_
            first | refine AL.go (OpR.plain rfl (r_fieldAddr fo_37_3 (by decide) rfl (nb rfl))) ?_ | refine AL.go (OpR.plain rfl (r_fieldAddrp fo_37_3 (by decide) rfl (nb rfl))) ?_
            first | refine AL.go (OpR.plain rfl (r_load ti_25 rfl rfl rfl (nb rfl))) ?_ | refine AL.go (OpR.plain rfl (r_loadp ti_25 rfl rfl (nb rfl))) ?_
            refine AL.go (OpR.plain rfl (r_len un_25 rfl (by first | exact .sl | exact .own | exact .row | exact .nil) (by intro _ h; cases h) (nb rfl) (by rintro _ ⟨⟩))) ?_
            refine AL.go (OpR.plain rfl (r_bin rfl rfl (nb rfl) rfl (run_int_lss _ _ _))) ?_
            refine AL.nil ?_
            refine thenN ?_
            refine AW.condb rfl (fun h7 => ?_) (fun h7 => ?_)
            · have h7n := h7; try simp only [dtt, dff, bqi, bqf, bni, bnf, nt1, nf1, nt0, nf0, ne_eq, ilt, ile, rows_length, Int.toNat_natCast, List.length_map] at h7n
              refine AW.skip ?_
              refine thenN ?_
              refine AW.seq ?_
              refine AW.block ?_
              refine AW.seq ?_
              refine AW.region ?_
              first | refine AL.go (OpR.plain rfl (r_fieldAddr fo_37_3 (by decide) rfl (nb rfl))) ?_ | refine AL.go (OpR.plain rfl (r_fieldAddrp fo_37_3 (by decide) rfl (nb rfl))) ?_
              first | refine AL.go (OpR.plain rfl (r_load ti_25 rfl rfl rfl (nb rfl))) ?_ | refine AL.go (OpR.plain rfl (r_loadp ti_25 rfl rfl (nb rfl))) ?_
              refine AL.go (OpR.plain rfl (r_move rfl (nb rfl) (by rintro _ ⟨⟩))) ?_
              refine AL.go (OpR.plain rfl (r_indexAddr un_25 ti_27 rfl (.inl rfl) rfl rows_len (by omega) (row_atn (by omega)) (nb rfl))) ?_
              first | refine AL.go (OpR.plain rfl (r_load ti_27 rfl rfl (by simp only [loaded, mpc, mpn, if_true, ler, tks, tkz, tkn, dps, dpz, cap, nap, apn, lnc, lnn, zad, Nat.reduceAdd, adz]; rfl) (nb rfl))) ?_ | refine AL.go (OpR.plain rfl (r_loadp ti_27 rfl (by simp only [loaded, mpc, mpn, if_true, ler, tks, tkz, tkn, dps, dpz, cap, nap, apn, lnc, lnn, zad, Nat.reduceAdd, adz]; rfl) (nb rfl))) ?_
              refine AL.go (OpR.plain rfl (r_callFun (much_p _ (hQ.group _ (getD_in (j := i) (by omega)))) en_11 rfl rfl rfl rfl (.cons (A.le_refl _) .nil) rfl (nb rfl))) ?_
              refine AL.nil ?_
              refine thenN ?_
              refine AW.condb rfl (fun h8 => ?_) (fun h8 => ?_)
              · have h8n := h8; try simp only [dtt, dff, bqi, bqf, bni, bnf, nt1, nf1, nt0, nf0, ne_eq, ilt, ile, rows_length, Int.toNat_natCast, List.length_map] at h8n
                refine AW.seq ?_
                refine AW.region ?_
                refine AL.go (OpR.plain rfl (r_assign rfl (nb rfl) (by rintro _ ⟨⟩; rfl))) ?_
                refine AL.nil ?_
                refine thenN ?_
                refine AW.ret ?_
                refine inbR ?_
                refine thenR ?_
                refine thenR ?_
                refine inbR ?_
                refine thenR ?_
                refine fin_id (.inr rfl) (ends_of rfl (.tmp rfl .nil)) ?_ .nil rfl rfl rfl rfl
                simp only [retA]
                refine A.le_of_eq ?_
                unfold muchQ
                first | (rw [show decide (20 < q.items.length) = true from decide_eq_true (by omega)]; simp; done) | (rw [show decide (12 < q.frm.length) = true from decide_eq_true (by omega)]; simp; done) | (rw [show decide (12 < q.group.length) = true from decide_eq_true (by omega)]; simp; done) | (rw [show much q.whr = true by assumption]; simp; done) | (rw [any_much (l := q.items) (by omega) (by assumption)]; simp; done) | (rw [any_much (l := q.group) (by omega) (by assumption)]; simp; done) | (rw [any_muchF (l := q.frm) (by omega) (by simp only [muchF, Bool.or_eq_true, dtt]; first | (left; assumption) | (right; omega))]; simp; done) | (rw [show decide (20 < q.items.length) = false from decide_eq_false (by omega), show decide (12 < q.frm.length) = false from decide_eq_false (by omega), show decide (12 < q.group.length) = false from decide_eq_false (by omega), show much q.whr = false by assumption, noneMuch.fin ‹noneMuch q.items _› (by omega), noneMuch.fin ‹noneMuch q.group _› (by omega), noneMuchF.fin ‹noneMuchF q.frm _› (by omega)]; rfl)
              · have h8n := h8; try simp only [dtt, dff, bqi, bqf, bni, bnf, nt1, nf1, nt0, nf0, ne_eq, ilt, ile, rows_length, Int.toNat_natCast, List.length_map] at h8n
                refine AW.skip ?_
                refine inbN ?_
                refine thenN ?_
                refine AW.region ?_
                refine AL.go (OpR.plain rfl (r_move rfl (nb rfl) (by rintro _ ⟨⟩))) ?_
                refine AL.go (OpR.plain rfl (r_add rfl rfl (nb rfl) (by first | omega | (have hF := wfQ_frm hQ (i := i) (by omega); omega)) (by first | omega | (have hF := wfQ_frm hQ (i := i) (by omega); omega)))) ?_
                refine AL.go (OpR.plain rfl (r_assign rfl (nb rfl) (by rintro _ ⟨⟩))) ?_
                refine AL.nil ?_
                refine thenN ?_
                refine ⟨⟨i + 1, hI.next (by omega) (by assumption)⟩, by simp only; omega, weakens_id (.cons rfl (A.le_of_eq (by first | rfl | (simp [A.ren, C.ren, renOf, lk]; done) | (simp [A.ren, C.ren, renOf, lk]; omega) | omega)) (.cons rfl (A.le_of_eq (by first | rfl | (simp [A.ren, C.ren, renOf, lk]; done) | (simp [A.ren, C.ren, renOf, lk]; omega) | omega)) .nil)) (.cons rfl (Ob.le_refl _) .nil) rfl rfl rfl rfl⟩
            · have h7n := h7; try simp only [dtt, dff, bqi, bqf, bni, bnf, nt1, nf1, nt0, nf0, ne_eq, ilt, ile, rows_length, Int.toNat_natCast, List.length_map] at h7n
              refine AW.exit ?_
              refine thenX ?_
              refine thenX ?_
              refine inbE ?_
              refine thenN ?_
              refine AW.seq ?_
              refine AW.seq ?_
              refine AW.region ?_
              refine AL.go (OpR.plain rfl (r_assign rfl (nb rfl) (by rintro _ ⟨⟩; rfl))) ?_
              refine AL.nil ?_
              refine thenN ?_
              refine AW.block ?_
              refine AW.loop (ι := { x : Nat // noneMuchF q.frm x }) (fun x => ⟨[(1, A.c (.ref 101 0)), (5, A.i64 (x.1 : Int))], [(101, .box (qyC q))], []⟩) (fun x => q.frm.length - x.1) ⟨0, ⟨Nat.zero_le _, by intro j hj; omega⟩⟩ (weakens_id (.cons rfl (A.le_of_eq (by first | rfl | (simp [A.ren, C.ren, renOf, lk]; done) | (simp [A.ren, C.ren, renOf, lk]; omega) | omega)) (.cons rfl (A.le_of_eq (by first | rfl | (simp [A.ren, C.ren, renOf, lk]; done) | (simp [A.ren, C.ren, renOf, lk]; omega) | omega)) .nil)) (.cons rfl (Ob.le_refl _) .nil) rfl rfl rfl rfl) ?_
              rintro ⟨i, hI⟩
              have hI1 := hI.1
              show AW _ _ (⟨[(1, A.c (.ref 101 0)), (5, A.i64 (i : Int))], [(101, .box (qyC q))], []⟩ : St) _
              refine AW.seq ?_
              refine AW.seq ?_
              refine AW.region ?_
              refine AL.go (OpR.plain rfl (r_move rfl (nb rfl) (by rintro _ ⟨⟩))) ?_
              first | refine AL.go (OpR.plain rfl (r_fieldAddr fo_37_1 (by decide) rfl (nb rfl))) ?_ | refine AL.go (OpR.plain rfl (r_fieldAddrp fo_37_1 (by decide) rfl (nb rfl))) ?_
              first | refine AL.go (OpR.plain rfl (r_load ti_35 rfl rfl rfl (nb rfl))) ?_ | refine AL.go (OpR.plain rfl (r_loadp ti_35 rfl rfl (nb rfl))) ?_
              refine AL.go (OpR.plain rfl (r_len un_35 rfl (by first | exact .sl | exact .own | exact .row | exact .nil) (by intro _ h; cases h) (nb rfl) (by rintro _ ⟨⟩))) ?_
              refine AL.go (OpR.plain rfl (r_bin rfl rfl (nb rfl) rfl (run_int_lss _ _ _))) ?_
              refine AL.nil ?_
              refine thenN ?_
              refine AW.condb rfl (fun h9 => ?_) (fun h9 => ?_)
              · have h9n := h9; try simp only [dtt, dff, bqi, bqf, bni, bnf, nt1, nf1, nt0, nf0, ne_eq, ilt, ile, rows_length, Int.toNat_natCast, List.length_map] at h9n
                refine AW.skip ?_
                refine thenN ?_
                refine AW.seq ?_
                refine AW.block ?_
                refine AW.seq ?_
                refine AW.draw ?_
                first | refine DW.go (OpR.plain rfl (r_fieldAddr fo_37_1 (by decide) rfl (nb rfl))) ?_ | refine DW.go (OpR.plain rfl (r_fieldAddrp fo_37_1 (by decide) rfl (nb rfl))) ?_
                first | refine DW.go (OpR.plain rfl (r_load ti_35 rfl rfl rfl (nb rfl))) ?_ | refine DW.go (OpR.plain rfl (r_loadp ti_35 rfl rfl (nb rfl))) ?_
                refine DW.go (OpR.plain rfl (r_move rfl (nb rfl) (by rintro _ ⟨⟩))) ?_
                refine DW.go (OpR.plain rfl (r_indexAddr un_35 ti_57 rfl (by first | exact .inl rfl | exact .inr ⟨_, rfl⟩) rfl fr_len (by first | omega | (have hF := wfQ_frm hQ (i := i) (by omega); omega)) (fr_atn (by omega)) (nb rfl))) ?_
                first | refine DW.go (OpR.plain rfl (r_fieldAddr fo_57_3 (by decide) rfl (nb rfl))) ?_ | refine DW.go (OpR.plain rfl (r_fieldAddrp fo_57_3 (by decide) rfl (nb rfl))) ?_
                first | refine DW.go (OpR.plain rfl (r_load ti_27 rfl rfl (by simp only [loaded, mpc, mpn, if_true, ler, tks, tkz, tkn, dps, dpz, cap, nap, apn, lnc, lnn, zad, Nat.reduceAdd, adz]; rfl) (nb rfl))) ?_ | refine DW.go (OpR.plain rfl (r_loadp ti_27 rfl (by simp only [loaded, mpc, mpn, if_true, ler, tks, tkz, tkn, dps, dpz, cap, nap, apn, lnc, lnn, zad, Nat.reduceAdd, adz]; rfl) (nb rfl))) ?_
                refine DW.go (OpR.plain rfl (r_callFun (much_p _ (wfQ_frm hQ (i := i) (by omega)).1) en_11 rfl rfl rfl rfl (.cons (A.le_refl _) .nil) rfl (nb rfl))) ?_
                refine DW.go (OpR.plain rfl (r_move rfl (nb rfl) (by rintro _ ⟨⟩))) ?_
                refine DW.ifb (t := 67) rfl (fun h10 => ?_) (fun h10 => ?_)
                · have h10n := h10; try simp only [dtt, dff, bqi, bqf, bni, bnf, nt1, nf1, nt0, nf0, ne_eq, ilt, ile, rows_length, Int.toNat_natCast, List.length_map] at h10n
                  refine DW.go (.off rfl rfl (nb rfl) rfl (by rw [h10]; decide) rfl (nb rfl)) ?_
                  refine DW.go (.off rfl rfl (nb rfl) rfl (by rw [h10]; decide) rfl (nb rfl)) ?_
                  refine DW.go (.off rfl rfl (nb rfl) rfl (by rw [h10]; decide) rfl (nb rfl)) ?_
                  refine DW.go (.off rfl rfl (nb rfl) rfl (by rw [h10]; decide) rfl (nb rfl)) ?_
                  refine DW.go (.off rfl rfl (nb rfl) rfl (by rw [h10]; decide) rfl (nb rfl)) ?_
                  refine DW.go (.off rfl rfl (nb rfl) rfl (by rw [h10]; decide) rfl (nb rfl)) ?_
                  refine DW.go (.off rfl rfl (nb rfl) rfl (by rw [h10]; decide) rfl (nb rfl)) ?_
                  refine DW.go (.off rfl rfl (nb rfl) rfl (by rw [h10]; decide) rfl (nb rfl)) ?_
                  refine DW.go (.off rfl rfl (nb rfl) rfl (by rw [h10]; decide) rfl (nb rfl)) ?_
                  refine DW.go (.off rfl rfl (nb rfl) rfl (by rw [h10]; decide) rfl (nb rfl)) ?_
                  refine DW.go (.off rfl rfl (nb rfl) rfl (by rw [h10]; decide) rfl (nb rfl)) ?_
                  refine DW.go (.off rfl rfl (nb rfl) rfl (by rw [h10]; decide) rfl (nb rfl)) ?_
                  refine DW.go (.off rfl rfl (nb rfl) rfl (by rw [h10]; decide) rfl (nb rfl)) ?_
                  refine DW.go (.off rfl rfl (nb rfl) rfl (by rw [h10]; decide) rfl (nb rfl)) ?_
                  refine DW.go (.off rfl rfl (nb rfl) rfl (by rw [h10]; decide) rfl (nb rfl)) ?_
                  refine DW.go (.off rfl rfl (nb rfl) rfl (by rw [h10]; decide) rfl (nb rfl)) ?_
                  refine DW.go (OpR.plain rfl (r_pickTb rfl (h10) rfl (nb rfl) (by rintro _ ⟨⟩; rfl))) ?_
                  refine DW.fin mixed (by kernel_rfl) (by kernel_rfl) ?_
                  refine thenN ?_
                  refine AW.condT rfl (rfl) ?_
                  refine AW.seq ?_
                  refine AW.region ?_
                  refine AL.go (OpR.plain rfl (r_assign rfl (nb rfl) (by rintro _ ⟨⟩; rfl))) ?_
                  refine AL.nil ?_
                  refine thenN ?_
                  refine AW.ret ?_
                  refine inbR ?_
                  refine thenR ?_
                  refine thenR ?_
                  refine inbR ?_
                  refine thenR ?_
                  refine fin_id (.inr rfl) (ends_of rfl (.tmp rfl .nil)) ?_ .nil rfl rfl rfl rfl
                  simp only [retA]
                  refine A.le_of_eq ?_
                  unfold muchQ
                  first | (rw [show decide (20 < q.items.length) = true from decide_eq_true (by omega)]; simp; done) | (rw [show decide (12 < q.frm.length) = true from decide_eq_true (by omega)]; simp; done) | (rw [show decide (12 < q.group.length) = true from decide_eq_true (by omega)]; simp; done) | (rw [show much q.whr = true by assumption]; simp; done) | (rw [any_much (l := q.items) (by omega) (by assumption)]; simp; done) | (rw [any_much (l := q.group) (by omega) (by assumption)]; simp; done) | (rw [any_muchF (l := q.frm) (by omega) (by simp only [muchF, Bool.or_eq_true, dtt]; first | (left; assumption) | (right; omega))]; simp; done) | (rw [show decide (20 < q.items.length) = false from decide_eq_false (by omega), show decide (12 < q.frm.length) = false from decide_eq_false (by omega), show decide (12 < q.group.length) = false from decide_eq_false (by omega), show much q.whr = false by assumption, noneMuch.fin ‹noneMuch q.items _› (by omega), noneMuch.fin ‹noneMuch q.group _› (by omega), noneMuchF.fin ‹noneMuchF q.frm _› (by omega)]; rfl)
                · have h10n := h10; try simp only [dtt, dff, bqi, bqf, bni, bnf, nt1, nf1, nt0, nf0, ne_eq, ilt, ile, rows_length, Int.toNat_natCast, List.length_map] at h10n
                  first | refine DW.go (OpR.onb rfl rfl (nb rfl) rfl (h10) (r_fieldAddr fo_37_1 (by decide) rfl (nb rfl))) ?_ | refine DW.go (OpR.onb rfl rfl (nb rfl) rfl (h10) (r_fieldAddrp fo_37_1 (by decide) rfl (nb rfl))) ?_
                  first | refine DW.go (OpR.onb rfl rfl (nb rfl) rfl (h10) (r_load ti_35 rfl rfl rfl (nb rfl))) ?_ | refine DW.go (OpR.onb rfl rfl (nb rfl) rfl (h10) (r_loadp ti_35 rfl rfl (nb rfl))) ?_
                  refine DW.go (OpR.onb rfl rfl (nb rfl) rfl (h10) (r_move rfl (nb rfl) (by rintro _ ⟨⟩))) ?_
                  refine DW.go (OpR.onb rfl rfl (nb rfl) rfl (h10) (r_indexAddr un_35 ti_57 rfl (by first | exact .inl rfl | exact .inr ⟨_, rfl⟩) rfl fr_len (by first | omega | (have hF := wfQ_frm hQ (i := i) (by omega); omega)) (fr_atn (by omega)) (nb rfl))) ?_
                  first | refine DW.go (OpR.onb rfl rfl (nb rfl) rfl (h10) (r_fieldAddr fo_57_1 (by decide) rfl (nb rfl))) ?_ | refine DW.go (OpR.onb rfl rfl (nb rfl) rfl (h10) (r_fieldAddrp fo_57_1 (by decide) rfl (nb rfl))) ?_
                  first | refine DW.go (OpR.onb rfl rfl (nb rfl) rfl (h10) (r_load ti_9 rfl rfl rfl (nb rfl))) ?_ | refine DW.go (OpR.onb rfl rfl (nb rfl) rfl (h10) (r_loadp ti_9 rfl rfl (nb rfl))) ?_
                  refine DW.go (OpR.onb rfl rfl (nb rfl) rfl (h10) (r_lens un_9 rfl (nb rfl))) ?_
                  first | refine DW.go (OpR.onb rfl rfl (nb rfl) rfl (h10) (r_fieldAddr fo_37_1 (by decide) rfl (nb rfl))) ?_ | refine DW.go (OpR.onb rfl rfl (nb rfl) rfl (h10) (r_fieldAddrp fo_37_1 (by decide) rfl (nb rfl))) ?_
                  first | refine DW.go (OpR.onb rfl rfl (nb rfl) rfl (h10) (r_load ti_35 rfl rfl rfl (nb rfl))) ?_ | refine DW.go (OpR.onb rfl rfl (nb rfl) rfl (h10) (r_loadp ti_35 rfl rfl (nb rfl))) ?_
                  refine DW.go (OpR.onb rfl rfl (nb rfl) rfl (h10) (r_move rfl (nb rfl) (by rintro _ ⟨⟩))) ?_
                  refine DW.go (OpR.onb rfl rfl (nb rfl) rfl (h10) (r_indexAddr un_35 ti_57 rfl (by first | exact .inl rfl | exact .inr ⟨_, rfl⟩) rfl fr_len (by first | omega | (have hF := wfQ_frm hQ (i := i) (by omega); omega)) (fr_atn (by omega)) (nb rfl))) ?_
                  first | refine DW.go (OpR.onb rfl rfl (nb rfl) rfl (h10) (r_fieldAddr fo_57_2 (by decide) rfl (nb rfl))) ?_ | refine DW.go (OpR.onb rfl rfl (nb rfl) rfl (h10) (r_fieldAddrp fo_57_2 (by decide) rfl (nb rfl))) ?_
                  first | refine DW.go (OpR.onb rfl rfl (nb rfl) rfl (h10) (r_load ti_9 rfl rfl rfl (nb rfl))) ?_ | refine DW.go (OpR.onb rfl rfl (nb rfl) rfl (h10) (r_loadp ti_9 rfl rfl (nb rfl))) ?_
                  refine DW.go (OpR.onb rfl rfl (nb rfl) rfl (h10) (r_lens un_9 rfl (nb rfl))) ?_
                  refine DW.go (OpR.onb rfl rfl (nb rfl) rfl (h10) (r_add rfl rfl (nb rfl) (by first | omega | (have hF := wfQ_frm hQ (i := i) (by omega); omega)) (by first | omega | (have hF := wfQ_frm hQ (i := i) (by omega); omega)))) ?_
                  refine DW.go (OpR.onb rfl rfl (nb rfl) rfl (h10) (r_bin rfl rfl (nb rfl) rfl (run_int_gtr _ _ _))) ?_
                  refine DW.go (OpR.plain rfl (r_pickFb rfl (h10) rfl (nb rfl) (by rintro _ ⟨⟩))) ?_
                  refine DW.fin mixed (by kernel_rfl) (by kernel_rfl) ?_
                  refine thenN ?_
                  refine AW.condb rfl (fun h11 => ?_) (fun h11 => ?_)
                  · have h11n := h11; try simp only [dtt, dff, bqi, bqf, bni, bnf, nt1, nf1, nt0, nf0, ne_eq, ilt, ile, rows_length, Int.toNat_natCast, List.length_map] at h11n
                    refine AW.seq ?_
                    refine AW.region ?_
                    refine AL.go (OpR.plain rfl (r_assign rfl (nb rfl) (by rintro _ ⟨⟩; rfl))) ?_
                    refine AL.nil ?_
                    refine thenN ?_
                    refine AW.ret ?_
                    refine inbR ?_
                    refine thenR ?_
                    refine thenR ?_
                    refine inbR ?_
                    refine thenR ?_
                    refine fin_id (.inr rfl) (ends_of rfl (.tmp rfl .nil)) ?_ .nil rfl rfl rfl rfl
                    simp only [retA]
                    refine A.le_of_eq ?_
                    unfold muchQ
                    first | (rw [show decide (20 < q.items.length) = true from decide_eq_true (by omega)]; simp; done) | (rw [show decide (12 < q.frm.length) = true from decide_eq_true (by omega)]; simp; done) | (rw [show decide (12 < q.group.length) = true from decide_eq_true (by omega)]; simp; done) | (rw [show much q.whr = true by assumption]; simp; done) | (rw [any_much (l := q.items) (by omega) (by assumption)]; simp; done) | (rw [any_much (l := q.group) (by omega) (by assumption)]; simp; done) | (rw [any_muchF (l := q.frm) (by omega) (by simp only [muchF, Bool.or_eq_true, dtt]; first | (left; assumption) | (right; omega))]; simp; done) | (rw [show decide (20 < q.items.length) = false from decide_eq_false (by omega), show decide (12 < q.frm.length) = false from decide_eq_false (by omega), show decide (12 < q.group.length) = false from decide_eq_false (by omega), show much q.whr = false by assumption, noneMuch.fin ‹noneMuch q.items _› (by omega), noneMuch.fin ‹noneMuch q.group _› (by omega), noneMuchF.fin ‹noneMuchF q.frm _› (by omega)]; rfl)
                  · have h11n := h11; try simp only [dtt, dff, bqi, bqf, bni, bnf, nt1, nf1, nt0, nf0, ne_eq, ilt, ile, rows_length, Int.toNat_natCast, List.length_map] at h11n
                    refine AW.skip ?_
                    refine inbN ?_
                    refine thenN ?_
                    refine AW.region ?_
                    refine AL.go (OpR.plain rfl (r_move rfl (nb rfl) (by rintro _ ⟨⟩))) ?_
                    refine AL.go (OpR.plain rfl (r_add rfl rfl (nb rfl) (by first | omega | (have hF := wfQ_frm hQ (i := i) (by omega); omega)) (by first | omega | (have hF := wfQ_frm hQ (i := i) (by omega); omega)))) ?_
                    refine AL.go (OpR.plain rfl (r_assign rfl (nb rfl) (by rintro _ ⟨⟩))) ?_
                    refine AL.nil ?_
                    refine thenN ?_
                    refine ⟨⟨i + 1, hI.next (by omega) (by first | (simp only [muchF, Bool.or_eq_false_iff, dff]; exact ⟨by assumption, by omega⟩))⟩, by simp only; omega, weakens_id (.cons rfl (A.le_of_eq (by first | rfl | (simp [A.ren, C.ren, renOf, lk]; done) | (simp [A.ren, C.ren, renOf, lk]; omega) | omega)) (.cons rfl (A.le_of_eq (by first | rfl | (simp [A.ren, C.ren, renOf, lk]; done) | (simp [A.ren, C.ren, renOf, lk]; omega) | omega)) .nil)) (.cons rfl (Ob.le_refl _) .nil) rfl rfl rfl rfl⟩
              · have h9n := h9; try simp only [dtt, dff, bqi, bqf, bni, bnf, nt1, nf1, nt0, nf0, ne_eq, ilt, ile, rows_length, Int.toNat_natCast, List.length_map] at h9n
                refine AW.exit ?_
                refine thenX ?_
                refine thenX ?_
                refine inbE ?_
                refine thenN ?_
                refine AW.seq ?_
                refine AW.region ?_
                refine AL.go (OpR.plain rfl (r_assign rfl (nb rfl) (by rintro _ ⟨⟩; rfl))) ?_
                refine AL.nil ?_
                refine thenN ?_
                refine AW.ret ?_
                refine fin_id (.inr rfl) (ends_of rfl (.tmp rfl .nil)) ?_ .nil rfl rfl rfl rfl
                simp only [retA]
                refine A.le_of_eq ?_
                unfold muchQ
                first | (rw [show decide (20 < q.items.length) = true from decide_eq_true (by omega)]; simp; done) | (rw [show decide (12 < q.frm.length) = true from decide_eq_true (by omega)]; simp; done) | (rw [show decide (12 < q.group.length) = true from decide_eq_true (by omega)]; simp; done) | (rw [show much q.whr = true by assumption]; simp; done) | (rw [any_much (l := q.items) (by omega) (by assumption)]; simp; done) | (rw [any_much (l := q.group) (by omega) (by assumption)]; simp; done) | (rw [any_muchF (l := q.frm) (by omega) (by simp only [muchF, Bool.or_eq_true, dtt]; first | (left; assumption) | (right; omega))]; simp; done) | (rw [show decide (20 < q.items.length) = false from decide_eq_false (by omega), show decide (12 < q.frm.length) = false from decide_eq_false (by omega), show decide (12 < q.group.length) = false from decide_eq_false (by omega), show much q.whr = false by assumption, noneMuch.fin ‹noneMuch q.items _› (by omega), noneMuch.fin ‹noneMuch q.group _› (by omega), noneMuchF.fin ‹noneMuchF q.frm _› (by omega)]; rfl)

end Go.Par
