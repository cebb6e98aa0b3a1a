import Derived.Test.YtihcfphmikebgaaDoorPrt22
namespace Go.Par
open Go Go.Am Go.Proofs Go.RowKit
set_option linter.unusedVariables false
set_option linter.unusedSimpArgs false
theorem en_13 : enters Tryd.prog 13 = true := by kernel_rfl
theorem en_17 : enters Tryd.prog 17 = true := by kernel_rfl
theorem en_19 : enters Tryd.prog 19 = true := by kernel_rfl
theorem en_30 : enters Tryd.prog 30 = true := by kernel_rfl
theorem en_51 : enters Tryd.prog 51 = true := by kernel_rfl
theorem en_52 : enters Tryd.prog 52 = true := by kernel_rfl

/-! Trees of expressions; lists -/
inductive PrTree : Ex → Prop where
  | mk {e : Ex} (h : PrOk e) (hs : ∀ x ∈ e.l, PrTree x) : PrTree e
theorem prok_zero : PrOk Ex.zero := ⟨by decide, by decide, by decide, by decide, by decide, by decide, by decide, by decide⟩
theorem prs_zero : Prs Ex.zero := expr_p Ex.zero prok_zero (fun h => by cases h) (fun h => by cases h)
theorem part_mem (e : Ex) (i : Nat) : e.part i ∈ e.l ∨ e.part i = Ex.zero := by
  unfold Ex.part
  by_cases h : i < e.l.length
  · left; simp [List.getD_eq_getElem?_getD, h]
  · right; simp [List.getD_eq_getElem?_getD, Nat.le_of_not_lt h]
theorem prs_all : ∀ {e : Ex}, PrTree e → Prs e ∧ True := fun h => by
  induction h with
  | mk h hs ih =>
    rename_i e
    have hp : ∀ i, Prs (e.part i) := fun i => by
      rcases part_mem e i with hm | hm
      · exact (ih _ hm).1
      · rw [hm]; exact prs_zero
    exact ⟨expr_p e h (fun _ => hp 0) (fun _ => hp 1), trivial⟩
theorem row_at {l : List Ex} {j : Int} (h0 : 0 ≤ j) (h : j < l.length) : (Ex.rows l)[j.toNat]? = some [.v (.int .i64 (l.getD j.toNat Ex.zero).op), .v (.string (l.getD j.toNat Ex.zero).tab), .v (.string (l.getD j.toNat Ex.zero).name), .v (.int .i64 (l.getD j.toNat Ex.zero).t), .v (.int .i64 (l.getD j.toNat Ex.zero).c), .v (.int .i64 (l.getD j.toNat Ex.zero).val.kind), .v (.int .i64 (l.getD j.toNat Ex.zero).val.i), .v (.string (l.getD j.toNat Ex.zero).val.s), .sl false (Ex.rows (l.getD j.toNat Ex.zero).l)] := by
  rw [← Ex.row_eq]; exact getD_row (by omega)
theorem getD_in {l : List Ex} {j : Nat} (h : j < l.length) : l.getD j Ex.zero ∈ l := by simp [List.getD_eq_getElem?_getD, h]
theorem take_pr {l : List Ex} {i : Nat} (h : i < l.length) : (l.take (i + 1)).map Ex.pr = (l.take i).map Ex.pr ++ [(l.getD i Ex.zero).pr] := by
  rw [List.take_add_one, List.getElem?_eq_getElem h, List.map_append]
  congr 1
  simp [List.getD_eq_getElem?_getD, h]
theorem stRows_len {xs : List ByteArray} : ∀ r ∈ stRows xs, r.length = 1 := by
  intro r hr
  obtain ⟨_, _, rfl⟩ := List.mem_map.1 hr
  rfl
theorem dlen (x : ByteArray) : x.data.toList.length = x.size := by rw [Array.length_toList]; rfl
theorem joinTail_len {B : Nat} {sep : List UInt8} : ∀ {r : List (List UInt8)}, (∀ x ∈ r, x.length ≤ B) → (Lib.joinTail sep r).length ≤ r.length * (B + sep.length)
  | [], _ => by simp [Lib.joinTail]
  | x :: r, h => by
    have h1 := joinTail_len (r := r) (sep := sep) (fun y hy => h y (by simp [hy]))
    have h2 := h x (by simp)
    have e : (Lib.joinTail sep (x :: r)).length = sep.length + x.length + (Lib.joinTail sep r).length := by simp [Lib.joinTail]; omega
    rw [e, lnc, Nat.add_mul, Nat.one_mul]
    omega
theorem joinM_size {B : Nat} {sep : ByteArray} : ∀ {xs : List ByteArray}, (∀ x ∈ xs, x.size ≤ B) → (joinM xs sep).size ≤ xs.length * (B + sep.size) := fun {xs} h => by
  cases xs with
  | nil => exact Nat.zero_le _
  | cons x r =>
    have h1 := joinTail_len (B := B) (sep := sep.data.toList) (r := r.map (·.data.toList)) (fun y hy => by obtain ⟨z, hz, rfl⟩ := List.mem_map.1 hy; have := h z (by simp [hz]); rw [dlen]; exact this)
    have h2 := h x (by simp)
    have e : (joinM (x :: r) sep).size = x.size + (Lib.joinTail sep.data.toList (r.map (·.data.toList))).length := by
      show (List.toArray _).size = _
      rw [mpc, Lib.join_cons, List.size_toArray, List.length_append, dlen]
    have e3 := dlen sep
    rw [List.length_map, e3] at h1
    rw [e, lnc, Nat.add_mul, Nat.one_mul]
    omega
abbrev comma : ByteArray := ⟨#[44, 32]⟩
def listM (l : List Ex) : ByteArray := joinM (l.map Ex.pr) comma
theorem listM_next {l : List Ex} {i : Nat} (h : i < l.length) : listM (l.take (i + 1)) = (if i = 0 then ⟨#[]⟩ else listM (l.take i) ++ comma) ++ (l.getD i Ex.zero).pr := by
  unfold listM
  rw [take_pr h]
  by_cases e : i = 0
  · subst e
    rw [if_pos rfl]
    simp only [tkz, mpn, nap, joinM_one]
    apply ByteArray.ext; simp [ByteArray.data_append]
  · rw [if_neg e, joinM_snoc (by intro hh; have := congrArg List.length hh; simp only [List.length_map, List.length_take, lnn] at this; omega)]
theorem listM_size {l : List Ex} (h : ∀ x ∈ l, x.pr.size ≤ 1000000000) : (listM l).size ≤ l.length * 1000000002 := by
  have := joinM_size (B := 1000000000) (sep := comma) (xs := l.map Ex.pr) (fun x hx => by obtain ⟨y, hy, rfl⟩ := List.mem_map.1 hx; exact h y hy)
  have e : comma.size = 2 := rfl
  rw [e, List.length_map] at this
  exact this
theorem listM_take {l : List Ex} (i : Nat) (hl : l.length ≤ 1000) (h : ∀ x ∈ l, x.pr.size ≤ 1000000000) : (listM (l.take i)).size ≤ 1000000002000 := by
  have h1 := listM_size (l := l.take i) (fun x hx => h x (List.mem_of_mem_take hx))
  have h2 : (l.take i).length ≤ 1000 := by rw [List.length_take]; omega
  have h3 := Nat.mul_le_mul_right 1000000002 h2
  omega

theorem en_53 : enters Tryd.prog 53 = true := by kernel_rfl

theorem list_p (l : List Ex) (hl : l.length ≤ 1000) (hx : ∀ x ∈ l, Prs x) (hs : ∀ x ∈ l, x.pr.size ≤ 1000000000) : Am.Spec Tryd.prog 31 [A.c (.d (.sl false (Ex.rows l)))] [(90, pow)] (A.val (.string (listM l))) [(90, pow)] := by
  refine spec_ofN (n := 20) Tryd.func31 rfl rfl (nb rfl) ?_
  show AW _ _ (⟨[(0, A.c (.d (.sl false (Ex.rows l))))], [(90, pow)], []⟩ : St) _
  refine AW.seq ?_
  refine AW.region ?_
  refine AL.go (OpR.plain rfl (r_assign rfl (nb rfl) (by rintro _ ⟨⟩; rfl))) ?_
  refine AL.nil ?_
  refine thenN ?_
  refine AW.seq ?_
  refine AW.region ?_
  refine AL.go (OpR.plain rfl (r_assign rfl (nb rfl) (by rintro _ ⟨⟩; rfl))) ?_
  refine AL.nil ?_
  refine thenN ?_
  refine AW.seq ?_
  refine AW.seq ?_
  refine AW.region ?_
  refine AL.go (OpR.plain rfl (r_move rfl (nb rfl) (by rintro _ ⟨⟩))) ?_
  refine AL.go (OpR.plain rfl (r_len un_25 rfl (by first | exact .sl | exact .own | exact .row | exact .nil) (by intro _ h; cases h) (nb rfl) (by rintro _ ⟨⟩))) ?_
  refine AL.go (OpR.plain rfl (r_move rfl (nb rfl) (by rintro _ ⟨⟩; rfl))) ?_
  refine AL.nil ?_
  refine thenN ?_
  refine AW.block ?_
  refine AW.nilOwn 3 50 1 9 rfl rfl ?_
  refine AW.loop (ι := { x : Nat // x ≤ l.length }) (fun x => ⟨[(6, A.c (.d (.sl false (Ex.rows l)))), (7, A.i64 ((Ex.rows l).length : Int)), (8, A.i64 (x.1 : Int)), (3, A.c (.own 50 (stRows ((l.take x.1).map Ex.pr))))], [(50, .perm 1 9), (90, pow)], []⟩) (fun x => l.length - x.1) ⟨0, Nat.zero_le _⟩ (weakens_id (.cons rfl (A.le_of_eq (by first | rfl | (simp [A.ren, C.ren, renOf, lk]; done) | (simp [A.ren, C.ren, renOf, lk]; omega) | omega)) (.cons rfl (A.le_of_eq rfl) (.cons rfl (A.le_of_eq (by first | rfl | (simp [A.ren, C.ren, renOf, lk]; done) | (simp [A.ren, C.ren, renOf, lk]; omega) | omega)) (.cons rfl (A.le_of_eq rfl) .nil)))) (.cons rfl (Ob.le_refl _) (.cons rfl (Ob.le_refl _) .nil)) rfl rfl rfl rfl) ?_
  rintro ⟨i, hI⟩
  show AW _ _ (⟨[(6, A.c (.d (.sl false (Ex.rows l)))), (7, A.i64 ((Ex.rows l).length : Int)), (8, A.i64 (i : Int)), (3, A.c (.own 50 (stRows ((l.take i).map Ex.pr))))], [(50, .perm 1 9), (90, pow)], []⟩ : St) _
  refine AW.seq ?_
  refine AW.region ?_
  refine AL.go (OpR.plain rfl (r_bin rfl rfl (nb rfl) rfl (run_int_lss _ _ _))) ?_
  refine AL.nil ?_
  refine thenN ?_
  refine AW.seq ?_
  refine AW.condb rfl (fun h1 => ?_) (fun h1 => ?_)
  · have h1n := h1; try simp only [dtt, dff, bqi, bqf, bni, bnf, nt1, nf1, nt0, nf0, ne_eq, ilt, ile, rows_length, Int.toNat_natCast] at h1n
    refine AW.skip ?_
    refine thenN ?_
    refine AW.seq ?_
    refine AW.block ?_
    refine AW.seq ?_
    refine AW.region ?_
    refine AL.go (OpR.plain rfl (r_indexAddr un_25 ti_27 rfl (by first | exact .inl rfl | exact .inr ⟨_, rfl⟩) rfl rows_len (by first | omega | (simp only [rows_length, Int.toNat_natCast] at *; omega)) (row_at (by omega) (by omega)) (nb rfl))) ?_
    first | refine AL.go (OpR.plain rfl (r_load ti_27 rfl rfl (by simp only [loaded, mpc, mpn, if_true, ler, tks, tkz, tkn, dps, dpz, cap, nap, apn, lnc, lnn, zad, Nat.reduceAdd, adz]; rfl) (nb rfl))) ?_ | refine AL.go (OpR.plain rfl (r_loadp ti_27 rfl (by simp only [loaded, mpc, mpn, if_true, ler, tks, tkz, tkn, dps, dpz, cap, nap, apn, lnc, lnn, zad, Nat.reduceAdd, adz]; rfl) (nb rfl))) ?_
    refine AL.go (OpR.plain rfl (r_alloc 101 ti_27 zc_27 rfl rfl (nb rfl))) ?_
    refine AL.go (OpR.plain rfl (r_storeN ti_27 rfl rfl rfl rfl rfl (nb rfl) (by simp only [putAt, tks, tkz, tkn, dps, dpz, cap, nap, apn, lnc, lnn, zad, Nat.reduceAdd, adz]; rfl) (by rintro _ ⟨⟩))) ?_
    refine AL.nil ?_
    refine thenN ?_
    refine AW.region ?_
    refine AL.go (OpR.plain rfl (r_move rfl (nb rfl) (by rintro _ ⟨⟩))) ?_
    first | refine AL.go (OpR.plain rfl (r_load ti_27 rfl rfl (by simp only [loaded, mpc, mpn, if_true, ler, tks, tkz, tkn, dps, dpz, cap, nap, apn, lnc, lnn, zad, Nat.reduceAdd, adz]; rfl) (nb rfl))) ?_ | refine AL.go (OpR.plain rfl (r_loadp ti_27 rfl (by simp only [loaded, mpc, mpn, if_true, ler, tks, tkz, tkn, dps, dpz, cap, nap, apn, lnc, lnn, zad, Nat.reduceAdd, adz]; rfl) (nb rfl))) ?_
    refine AL.go (OpR.plain rfl (r_callId (hx (l.getD i Ex.zero) (getD_in (by omega))) en_9 rfl rfl rfl rfl (.cons (A.le_refl _) .nil) rfl (.cons rfl .nil) rfl rfl rfl (nb rfl))) ?_
    refine AL.go (OpR.plain rfl (r_buildSlice un_60 ti_9 rfl rfl rfl rfl rfl (by decide) (by decide) rfl (nb rfl))) ?_
    first | refine AL.go (OpR.plain rfl (r_append 103 un_60 ti_9 rfl rfl rfl rfl (by first | exact .sl | exact .own | exact .nil) rfl (by first | exact stRows_len | (simp; done)) (by first | exact stRows_len | (simp; done)) rfl (by simp [maxLen, stRows]; omega) (by simp [maxLen, stRows]; omega) (nb rfl))) ?_ | refine AL.go (OpR.plain rfl (r_appendNil 102 103 un_60 ti_9 rfl rfl rfl (by first | exact .sl | exact .own | exact .nil) rfl (by first | exact stRows_len | (simp; done)) rfl rfl (by decide) (by simp [maxLen, stRows]; omega) (by simp [maxLen, stRows]; omega) (nb rfl))) ?_
    refine AL.go (OpR.plain rfl (r_assign rfl (nb rfl) (by rintro _ ⟨⟩))) ?_
    refine AL.nil ?_
    refine inbN ?_
    refine thenN ?_
    refine AW.region ?_
    refine AL.go (OpR.plain rfl (r_add rfl rfl (nb rfl) (by first | omega | (simp only [rows_length, Int.toNat_natCast] at *; omega)) (by first | omega | (simp only [rows_length, Int.toNat_natCast] at *; omega)))) ?_
    refine AL.go (OpR.plain rfl (r_move rfl (nb rfl) (by rintro _ ⟨⟩))) ?_
    refine AL.nil ?_
    refine thenN ?_
    refine ⟨⟨i + 1, by omega⟩, by simp only; omega, weakens_ren [(50, 103)] (.cons rfl (A.le_of_eq (by first | rfl | (simp [A.ren, C.ren, renOf, lk]; done) | (simp [A.ren, C.ren, renOf, lk]; omega) | omega)) (.cons rfl (A.le_of_eq rfl) (.cons rfl (A.le_of_eq (by first | rfl | (simp [A.ren, C.ren, renOf, lk]; done) | (simp [A.ren, C.ren, renOf, lk]; omega) | omega)) (.cons rfl (A.le_of_eq (by rw [take_pr (by omega)]; simp [stRows, A.ren, C.ren, renOf, lk])) .nil)))) (.cons rfl (Ob.le_refl _) (.cons rfl (Ob.le_refl _) .nil)) rfl rfl rfl rfl rfl rfl⟩
  · have h1n := h1; try simp only [dtt, dff, bqi, bqf, bni, bnf, nt1, nf1, nt0, nf0, ne_eq, ilt, ile, rows_length, Int.toNat_natCast] at h1n
    refine AW.exit ?_
    refine thenX ?_
    refine thenX ?_
    refine inbE ?_
    refine thenN ?_
    refine AW.seq ?_
    refine AW.region ?_
    refine AL.go (OpR.plain rfl (r_move rfl (nb rfl) (by rintro _ ⟨⟩))) ?_
    refine AL.go (OpR.plain rfl (r_callFun (sjoin_s false (l.map Ex.pr) comma (by simp; omega) (by have := listM_take l.length hl hs; rw [List.take_length] at this; unfold listM at this; omega)) en_53 rfl rfl rfl rfl (.cons (A.le_trans A.le_own (A.le_of_eq (by rw [List.take_of_length_le (by omega)]))) (.cons (A.le_refl _) .nil)) rfl (nb rfl))) ?_
    refine AL.go (OpR.plain rfl (r_assign rfl (nb rfl) (by rintro _ ⟨⟩))) ?_
    refine AL.nil ?_
    refine thenN ?_
    refine AW.ret ?_
    refine fin_id (.inr rfl) (ends_of rfl (.tmp rfl .nil)) ?_ (.cons rfl (Ob.le_refl _) .nil) rfl rfl rfl rfl
    simp only [retA]
    exact A.le_refl _

end Go.Par
