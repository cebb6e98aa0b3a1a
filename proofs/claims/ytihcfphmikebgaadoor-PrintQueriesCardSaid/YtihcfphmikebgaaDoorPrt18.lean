import Derived.Test.YtihcfphmikebgaaDoorPrt17
namespace Go.Par
open Go Go.Am Go.Proofs Go.RowKit
set_option linter.unusedVariables false
set_option linter.unusedSimpArgs false

/-- The parser's function of a level does what R says, with fuel n. -/
def LvOk (n : Nat) (l : Lv) (f : FuncId) : Prop := ∀ p, Good p → mz p + l.rank ≤ n → Am.Spec Tryd.prog f [A.c (.ref 0 0)] [(0, pbox p)] (exA (R n (.parse l) p).1) [(0, pbox (R n (.parse l) p).2)]
structure AllOk (n : Nat) : Prop where
  atom : LvOk n .atom 99
  prod : LvOk n .prod 96
  sum : LvOk n .sum 87
  test : LvOk n .test 76
  not : LvOk n .not 63
  and : LvOk n .and 47
  or : LvOk n .or 23
theorem allOk : ∀ n k, k ≤ n → AllOk k
  | 0, k, h => by
    have : k = 0 := by omega
    subst this
    exact ⟨fun p _ hm => by simp [Lv.rank] at hm, fun p _ hm => by simp [Lv.rank] at hm, fun p _ hm => by simp [Lv.rank] at hm, fun p _ hm => by simp [Lv.rank] at hm, fun p _ hm => by simp [Lv.rank] at hm, fun p _ hm => by simp [Lv.rank] at hm, fun p _ hm => by simp [Lv.rank] at hm⟩
  | n + 1, k, h => by
    by_cases hk : k ≤ n
    · exact allOk n k hk
    · have : k = n + 1 := by omega
      subst this
      have ih : ∀ k, k ≤ n → AllOk k := allOk n
      refine ⟨fun p hg hm => atom_s n p hg hm (fun q hq hmq => (ih n (ler _)).or q hq hmq), fun p hg hm => prod_s n p hg ?_ (fun k q hq h1 h2 => (ih k h2).atom q hq h1), fun p hg hm => sum_s n p hg ?_ (fun k q hq h1 h2 => (ih k h2).prod q hq h1),
        fun p hg hm => test_s n p hg ?_ (fun k q hq h1 h2 => (ih k h2).sum q hq h1), fun p hg hm => not_s n p hg hm (fun q hq h1 => (ih n (ler _)).test q hq h1) (fun q hq h1 => (ih n (ler _)).not q hq h1),
        fun p hg hm => and_s n p hg ?_ (fun k q hq h1 h2 => (ih k h2).not q hq h1), fun p hg hm => or_s n p hg ?_ (fun k q hq h1 h2 => (ih k h2).and q hq h1)⟩ <;> simp only [Lv.rank, Lv.sub] at hm ⊢ <;> omega
theorem nameM_kind (s : ByteArray) (i : Nat) : (nameM s i).1.kind ≠ 4 := by
  unfold nameM
  split
  · simp [Tok.zero]
  · show (if isWord _ = true then (2 : Int) else 1) ≠ 4
    split <;> decide
theorem numberM_kind (s : ByteArray) (i : Nat) : (numberM s i).1.kind ≠ 4 := by
  unfold numberM
  split
  · simp [Tok.zero]
  · split <;> simp [Tok.zero]
theorem errFix_text {a : Nat} {r : Tok × Nat × Int} (h : r.1.kind = 4 → r.1.text.size ≤ 65536) : (errFix a r).1.kind = 4 → (errFix a r).1.text.size ≤ 65536 := by
  unfold errFix
  split
  · intro hh; simp [Tok.zero] at hh
  · exact h
theorem oneM_text (s : ByteArray) (a : Nat) : (oneM s a).1.kind = 4 → (oneM s a).1.text.size ≤ 65536 := by
  unfold oneM
  split
  · intro h; simp at h
  · split
    · exact errFix_text (fun h => absurd h (nameM_kind _ _))
    · split
      · exact errFix_text (fun h => absurd h (numberM_kind _ _))
      · split
        · refine errFix_text (fun h => ?_)
          unfold textM at h ⊢
          split
          · rename_i hq; rw [hq] at h; simp [Tok.zero] at h
          · rename_i acc k hq
            rw [hq] at h
            simp only at h ⊢
            by_cases hc : acc.size > 65536
            · rw [if_pos hc] at h; simp [Tok.zero] at h
            · rw [if_neg hc]; show acc.size ≤ 65536; omega
        · split
          · intro h; simp [Tok.zero] at h
          · intro h; simp at h
theorem allL_ok {s : ByteArray} : ∀ (n a : Nat) (acc : List Tok), (∀ t ∈ acc, t.kind = 4 → t.text.size ≤ 65536) → (allL s n a acc).1.length ≤ acc.length + n ∧ ∀ t ∈ (allL s n a acc).1, t.kind = 4 → t.text.size ≤ 65536
  | 0, a, acc, h => ⟨Nat.zero_le _, fun t ht => by simp [allL] at ht⟩
  | n + 1, a, acc, h => by
    have h' : ∀ t ∈ acc ++ [(oneM s a).1], t.kind = 4 → t.text.size ≤ 65536 := fun t ht => by
      rcases List.mem_append.1 ht with ht | ht
      · exact h t ht
      · simp at ht; subst ht; exact oneM_text s a
    rw [allL]
    split
    · exact ⟨Nat.zero_le _, fun t ht => by simp at ht⟩
    · split
      · exact ⟨by simp, h'⟩
      · have := allL_ok (s := s) n (oneM s a).2.1 _ h'
        refine ⟨?_, this.2⟩
        have e := this.1
        simp at e
        omega
/-- The parser's first state. -/
def p0 (s : ByteArray) : Pst := ⟨(allM s).1, 0, 0, (allM s).2⟩
theorem p0_good (s : ByteArray) : Good (p0 s) := by
  have := allL_ok (s := s) 1000 0 [] (by simp)
  exact ⟨⟨Nat.zero_le _, by have := this.1; simp at this; exact this, Nat.zero_le _, this.2⟩, fun _ => Nat.zero_le _⟩
theorem p0_mz (s : ByteArray) : mz (p0 s) ≤ 20000 := by
  have := (p0_good s).ok.len
  unfold mz
  split
  · have e : (p0 s).at_ = 0 := rfl
    omega
  · omega
abbrev exZero : Ex := .mk 0 bs0 bs0 0 0 Val.null []
def Pst.fin (p : Pst) : Pst := if p.e = 0 ∧ p.tok.kind ≠ 0 then p.fail 1 else p
/-- What parse.Expr tells. -/
def exprM (n : Nat) (s : ByteArray) : Ex × Int := if (R n (.parse .or) (p0 s)).2.fin.e = 0 then ((R n (.parse .or) (p0 s)).1, 0) else (exZero, (R n (.parse .or) (p0 s)).2.fin.e)

theorem en_22 : enters Tryd.prog 22 = true := by kernel_rfl
theorem en_24 : enters Tryd.prog 24 = true := by kernel_rfl

theorem expr_s (n : Nat) (hn : 20007 ≤ n) (s : ByteArray) (hs : s.size ≤ 10000000000000) : Am.Spec Tryd.prog 7 [A.val (.string s)] [] (A.tup [exA (exprM n s).1, A.i64 (exprM n s).2]) [] := by
  refine spec_ofN (n := 21) Tryd.func7 rfl rfl (nb rfl) ?_
  show AW _ _ (⟨[(0, A.val (.string s))], [], []⟩ : St) _
  have hq := (R_keeps n (.parse .or) (p0 s) (p0_good s)).1
  have hor := (allOk n n (ler _)).or (p0 s) (p0_good s) (by have := p0_mz s; simp only [Lv.rank]; omega)
  refine AW.seq ?_
  refine AW.region ?_
  refine AL.go (OpR.plain rfl (r_alloc 201 ti_27 zc_27 rfl rfl (nb rfl))) ?_
  refine AL.go (OpR.plain rfl (r_assign rfl (nb rfl) (by rintro _ ⟨⟩; rfl))) ?_
  refine AL.nil ?_
  refine thenN ?_
  refine AW.seq ?_
  refine AW.region ?_
  refine AL.go (OpR.plain rfl (r_move rfl (nb rfl) (by rintro _ ⟨⟩))) ?_
  refine AL.go (OpR.plain rfl (r_callId (begin_s s hs) en_22 rfl rfl rfl rfl (.cons (A.le_refl _) .nil) rfl .nil rfl rfl rfl (nb rfl))) ?_
  refine AL.go (OpR.plain rfl (r_assign rfl (nb rfl) (by rintro _ ⟨⟩))) ?_
  refine AL.nil ?_
  refine thenN ?_
  refine AW.seq ?_
  refine AW.region ?_
  refine AL.go (OpR.plain rfl (r_move rfl (nb rfl) (by rintro _ ⟨⟩))) ?_
  refine AL.go (OpR.plain rfl (r_callId (hor) en_23 rfl rfl rfl rfl (.cons (A.le_refl _) .nil) rfl (.cons rfl .nil) rfl rfl rfl (nb rfl))) ?_
  refine AL.go (OpR.plain rfl (r_alloc 202 ti_27 zc_27 rfl rfl (nb rfl))) ?_
  refine AL.go (OpR.plain rfl (r_storeN ti_27 rfl rfl rfl rfl rfl (nb rfl) (by simp only [putAt, tks, tkz, tkn, dps, dpz, cap, nap, apn, lnc, lnn, zad, Nat.reduceAdd, adz]; rfl) (by rintro _ ⟨⟩))) ?_
  refine AL.nil ?_
  refine thenN ?_
  refine AW.seq ?_
  refine AW.region ?_
  refine AL.go (OpR.plain rfl (r_move rfl (nb rfl) (by rintro _ ⟨⟩))) ?_
  refine AL.go (OpR.plain rfl (r_callId (end_s (R n (.parse .or) (p0 s)).2 hq.good.ok) en_24 rfl rfl rfl rfl (.cons (A.le_refl _) .nil) rfl (.cons rfl .nil) rfl rfl rfl (nb rfl))) ?_
  refine AL.nil ?_
  refine thenN ?_
  refine AW.seq ?_
  refine AW.seq ?_
  refine AW.region ?_
  refine AL.go (OpR.plain rfl (r_move rfl (nb rfl) (by rintro _ ⟨⟩))) ?_
  refine AL.go (OpR.plain rfl (r_callId (ok_s (R n (.parse .or) (p0 s)).2.fin) en_25 rfl rfl rfl rfl (.cons (A.le_refl _) .nil) rfl (.cons rfl .nil) rfl rfl rfl (nb rfl))) ?_
  refine AL.go (OpR.plain rfl (r_not rfl (nb rfl))) ?_
  refine AL.nil ?_
  refine thenN ?_
  refine AW.condb rfl (fun h1 => ?_) (fun h1 => ?_)
  · have h1n := h1; try simp only [dtt, dff, bqi, bqf, bni, bnf, nt1, nf1, nt0, nf0, ne_eq, ilt, ile] at h1n
    refine AW.seq ?_
    refine AW.draw ?_
    refine DW.go (OpR.plain rfl (r_build pl_27 rfl zc_27 rfl rfl (by simp only [fillC, putAt, gez, ges, if_true, and_self, Nat.reduceLeDiff, true_and, tks, tkz, tkn, dps, dpz, cap, nap, apn, lnc, lnn, zad, Nat.reduceAdd, adz]; rfl) (nb rfl))) ?_
    refine DW.go (OpR.plain rfl (r_move rfl (nb rfl) (by rintro _ ⟨⟩))) ?_
    first | refine DW.go (OpR.plain rfl (r_nilCheck rfl (.inl ⟨_, _, rfl⟩) (nb rfl))) ?_ | refine DW.go (OpR.plain rfl (r_nilCheck rfl (.inr ⟨_, rfl⟩) (nb rfl))) ?_
    first | refine DW.go (OpR.plain rfl (r_fieldAddr fo_52_3 (by decide) rfl (nb rfl))) ?_ | refine DW.go (OpR.plain rfl (r_fieldAddrp fo_52_3 (by decide) rfl (nb rfl))) ?_
    first | refine DW.go (OpR.plain rfl (r_load ti_28 rfl rfl rfl (nb rfl))) ?_ | refine DW.go (OpR.plain rfl (r_loadp ti_28 rfl rfl (nb rfl))) ?_
    refine DW.go (OpR.plain rfl (r_storeN ti_27 rfl rfl rfl rfl rfl (nb rfl) (by simp only [putAt, tks, tkz, tkn, dps, dpz, cap, nap, apn, lnc, lnn, zad, Nat.reduceAdd, adz]; rfl) (by rintro _ ⟨⟩))) ?_
    refine DW.go (OpR.plain rfl (r_assign rfl (nb rfl) (by rintro _ ⟨⟩))) ?_
    refine DW.fin mixed (by kernel_rfl) (by kernel_rfl) ?_
    refine thenN ?_
    refine AW.ret ?_
    refine thenR ?_
    refine fin_id (.inr rfl) (ends_of rfl (.cell ti_27 rfl rfl (by simp only [loaded, if_true, ler, tks, tkz, tkn, dps, dpz, cap, nap, apn, lnc, lnn, zad, Nat.reduceAdd, adz]; rfl) (.tmp rfl .nil))) ?_ .nil rfl rfl rfl rfl
    simp only [retA]
    simp only [exprM]
    first | (rw [if_pos (by assumption)]; exact A.le_refl _) | (rw [if_neg (by assumption)]; exact A.le_tup (.cons (A.le_agg (.cons (by first | exact C.le_nil | exact C.le_refl _) (.cons (by first | exact C.le_nil | exact C.le_refl _) (.cons (by first | exact C.le_nil | exact C.le_refl _) (.cons (by first | exact C.le_nil | exact C.le_refl _) (.cons (by first | exact C.le_nil | exact C.le_refl _) (.cons (by first | exact C.le_nil | exact C.le_refl _) (.cons (by first | exact C.le_nil | exact C.le_refl _) (.cons (by first | exact C.le_nil | exact C.le_refl _) (.cons (by first | exact C.le_nil | exact C.le_refl _) .nil)))))))))) (.cons (A.le_refl _) .nil)))
  · have h1n := h1; try simp only [dtt, dff, bqi, bqf, bni, bnf, nt1, nf1, nt0, nf0, ne_eq, ilt, ile] at h1n
    refine AW.skip ?_
    refine thenN ?_
    refine AW.seq ?_
    refine AW.region ?_
    first | refine AL.go (OpR.plain rfl (r_load ti_27 rfl rfl (by simp only [loaded, mpc, mpn, if_true, ler, tks, tkz, tkn, dps, dpz, cap, nap, apn, lnc, lnn, zad, Nat.reduceAdd, adz]; rfl) (nb rfl))) ?_ | refine AL.go (OpR.plain rfl (r_loadp ti_27 rfl (by simp only [loaded, mpc, mpn, if_true, ler, tks, tkz, tkn, dps, dpz, cap, nap, apn, lnc, lnn, zad, Nat.reduceAdd, adz]; rfl) (nb rfl))) ?_
    refine AL.go (OpR.plain rfl (r_storeN ti_27 rfl rfl rfl rfl rfl (nb rfl) (by simp only [putAt, tks, tkz, tkn, dps, dpz, cap, nap, apn, lnc, lnn, zad, Nat.reduceAdd, adz]; rfl) (by rintro _ ⟨⟩))) ?_
    refine AL.go (OpR.plain rfl (r_assign rfl (nb rfl) (by rintro _ ⟨⟩; rfl))) ?_
    refine AL.nil ?_
    refine thenN ?_
    refine AW.ret ?_
    refine fin_id (.inr rfl) (ends_of rfl (.cell ti_27 rfl rfl (by simp only [loaded, if_true, ler, tks, tkz, tkn, dps, dpz, cap, nap, apn, lnc, lnn, zad, Nat.reduceAdd, adz]; rfl) (.tmp rfl .nil))) ?_ .nil rfl rfl rfl rfl
    simp only [retA]
    simp only [exprM]
    first | (rw [if_pos (by assumption)]; exact A.le_refl _) | (rw [if_neg (by assumption)]; exact A.le_tup (.cons (A.le_agg (.cons (by first | exact C.le_nil | exact C.le_refl _) (.cons (by first | exact C.le_nil | exact C.le_refl _) (.cons (by first | exact C.le_nil | exact C.le_refl _) (.cons (by first | exact C.le_nil | exact C.le_refl _) (.cons (by first | exact C.le_nil | exact C.le_refl _) (.cons (by first | exact C.le_nil | exact C.le_refl _) (.cons (by first | exact C.le_nil | exact C.le_refl _) (.cons (by first | exact C.le_nil | exact C.le_refl _) (.cons (by first | exact C.le_nil | exact C.le_refl _) .nil)))))))))) (.cons (A.le_refl _) .nil)))

end Go.Par
