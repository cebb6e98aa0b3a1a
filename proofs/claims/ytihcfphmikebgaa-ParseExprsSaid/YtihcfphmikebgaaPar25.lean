import Derived.Test.YtihcfphmikebgaaPar24
namespace Go.Par
open Go Go.Am Go.Proofs Go.RowKit
set_option linter.unusedVariables false
set_option linter.unusedSimpArgs false

def RLvOk (n : Nat) (l : Lv) (f : FuncId) : Prop := ∀ (d : Nat) p, d ≤ 50 → Good p → mz p + l.rank ≤ n → Am.Fun Try.prog f [atA p, A.i64 (d : Int)] (A.tup [atA (RR n (.parse l) d p).2, exA (RR n (.parse l) d p).1])
structure RAllOk (n : Nat) : Prop where
  atom : RLvOk n .atom 66
  prod : RLvOk n .prod 64
  sum : RLvOk n .sum 60
  test : RLvOk n .test 48
  not : RLvOk n .not 34
  and : RLvOk n .and 22
  or : RLvOk n .or 14
theorem rallOk : ∀ n k, k ≤ n → RAllOk k
  | 0, k, h => by
    have : k = 0 := by omega
    subst this
    exact ⟨fun d p _ _ hm => by simp [Lv.rank] at hm, fun d p _ _ hm => by simp [Lv.rank] at hm, fun d p _ _ hm => by simp [Lv.rank] at hm, fun d p _ _ hm => by simp [Lv.rank] at hm, fun d p _ _ hm => by simp [Lv.rank] at hm, fun d p _ _ hm => by simp [Lv.rank] at hm, fun d p _ _ hm => by simp [Lv.rank] at hm⟩
  | n + 1, k, h => by
    by_cases hk : k ≤ n
    · exact rallOk n k hk
    · have : k = n + 1 := by omega
      subst this
      have ih : ∀ k, k ≤ n → RAllOk k := rallOk n
      refine ⟨fun d p hd hg hm => ratom_s n d hd p hg hm (fun d q hd hq hmq => (ih n (ler _)).or d q hd hq hmq), fun d p hd hg hm => rprod_s n d hd p hg ?_ (fun k q hq h1 h2 => (ih k h2).atom d q hd hq h1), fun d p hd hg hm => rsum_s n d hd p hg ?_ (fun k q hq h1 h2 => (ih k h2).prod d q hd hq h1),
        fun d p hd hg hm => rtest_s n d hd p hg ?_ (fun q hq h1 => (ih n (ler _)).sum d q hd hq h1), fun d p hd hg hm => rnot_s n d hd p hg hm (fun q hq h1 => (ih n (ler _)).test d q hd hq h1) (fun d q hd hq h1 => (ih n (ler _)).not d q hd hq h1),
        fun d p hd hg hm => rand_s n d hd p hg ?_ (fun k q hq h1 h2 => (ih k h2).not d q hd hq h1), fun d p hd hg hm => ror_s n d hd p hg ?_ (fun k q hq h1 h2 => (ih k h2).and d q hd hq h1)⟩ <;> simp only [Lv.rank, Lv.sub] at hm ⊢ <;> omega
def Pst.rfin (p : Pst) : Pst := if p.kindR ≠ 0 then p.fail 1 else p
/-- What the document's Expr tells. -/
def rexprM (n : Nat) (s : ByteArray) : Ex × Int := if (RR n (.parse .or) 0 (p0 s)).2.rfin.e = 0 then ((RR n (.parse .or) 0 (p0 s)).1, 0) else (exZero, (RR n (.parse .or) 0 (p0 s)).2.rfin.e)
theorem ne_of {x y : Int} (h : (x != y) = true) : ¬ x = y := by simpa using h
theorem eq_of {x y : Int} (h : (x != y) = false) : x = y := by simpa using h

theorem en_15 : enters Try.prog 15 = true := by kernel_rfl
theorem en_16 : enters Try.prog 16 = true := by kernel_rfl

theorem rexpr_s (n : Nat) (hn : 20007 ≤ n) (s : ByteArray) (hs : s.size ≤ 100000) : Am.Spec Try.prog 6 [A.val (.string s)] [] (A.tup [exA (rexprM n s).1, A.i64 (rexprM n s).2]) [] := by
  refine spec_ofN (n := 21) Try.func6 rfl rfl (nb rfl) ?_
  show AW _ _ (⟨[(0, A.val (.string s))], [], []⟩ : St) _
  have hq := (RR_keeps n (.parse .or) 0 (p0 s) (p0_good s)).1
  have hor := (rallOk n n (ler _)).or 0 (p0 s) (by omega) (p0_good s) (by have := p0_mz s; simp only [Lv.rank]; omega)
  refine AW.seq ?_
  refine AW.region ?_
  refine AL.go (OpR.plain rfl (r_alloc 201 ti_27 zc_27 rfl rfl (nb rfl))) ?_
  refine AL.go (OpR.plain rfl (r_assign rfl (nb rfl) (by rintro _ ⟨⟩; rfl))) ?_
  refine AL.nil ?_
  refine thenN ?_
  refine AW.seq ?_
  refine AW.region ?_
  refine AL.go (OpR.plain rfl (r_move rfl (nb rfl) (by rintro _ ⟨⟩))) ?_
  refine AL.go (OpR.plain rfl (r_callFun (start_s s hs) en_15 rfl rfl rfl rfl (.cons (A.le_refl _) .nil) rfl (nb rfl))) ?_
  refine AL.go (OpR.plain rfl (r_callFun (hor) en_14 rfl rfl rfl rfl (.cons (A.le_refl _) (.cons (A.le_refl _) .nil)) rfl (nb rfl))) ?_
  refine AL.go (OpR.plain rfl (r_move rfl (nb rfl) (by rintro _ ⟨⟩))) ?_
  refine AL.go (OpR.plain rfl (r_extract rfl rfl (nb rfl))) ?_
  refine AL.go (OpR.plain rfl (r_extract rfl rfl (nb rfl))) ?_
  refine AL.go (OpR.plain rfl (r_alloc 202 ti_44 zc_44 rfl rfl (nb rfl))) ?_
  refine AL.go (OpR.plain rfl (r_alloc 203 ti_27 zc_27 rfl rfl (nb rfl))) ?_
  refine AL.go (OpR.plain rfl (r_storeN ti_44 rfl rfl rfl rfl rfl (nb rfl) (by simp only [putAt, tks, tkz, tkn, dps, dpz, cap, nap, apn, lnc, lnn, zad, Nat.reduceAdd, adz]; rfl) (by rintro _ ⟨⟩))) ?_
  refine AL.go (OpR.plain rfl (r_storeN ti_27 rfl rfl rfl rfl rfl (nb rfl) (by simp only [putAt, tks, tkz, tkn, dps, dpz, cap, nap, apn, lnc, lnn, zad, Nat.reduceAdd, adz]; rfl) (by rintro _ ⟨⟩))) ?_
  refine AL.nil ?_
  refine thenN ?_
  refine AW.seq ?_
  refine AW.region ?_
  first | refine AL.go (OpR.plain rfl (r_load ti_44 rfl rfl (by simp only [loaded, mpc, mpn, if_true, ler, tks, tkz, tkn, dps, dpz, cap, nap, apn, lnc, lnn, zad, Nat.reduceAdd, adz]; rfl) (nb rfl))) ?_ | refine AL.go (OpR.plain rfl (r_loadp ti_44 rfl (by simp only [loaded, mpc, mpn, if_true, ler, tks, tkz, tkn, dps, dpz, cap, nap, apn, lnc, lnn, zad, Nat.reduceAdd, adz]; rfl) (nb rfl))) ?_
  refine AL.go (OpR.plain rfl (r_callFun ((rfin_s (RR n (.parse .or) 0 (p0 s)).2 hq.good.ok : Am.Fun Try.prog 16 [atA (RR n (.parse .or) 0 (p0 s)).2] (atA (RR n (.parse .or) 0 (p0 s)).2.rfin))) en_16 rfl rfl rfl rfl (.cons (A.le_refl _) .nil) rfl (nb rfl))) ?_
  refine AL.go (OpR.plain rfl (r_storeN ti_44 rfl rfl rfl rfl rfl (nb rfl) (by simp only [putAt, tks, tkz, tkn, dps, dpz, cap, nap, apn, lnc, lnn, zad, Nat.reduceAdd, adz]; rfl) (by rintro _ ⟨⟩))) ?_
  refine AL.nil ?_
  refine thenN ?_
  refine AW.seq ?_
  refine AW.seq ?_
  refine AW.region ?_
  first | refine AL.go (OpR.plain rfl (r_fieldAddr fo_44_2 (by decide) rfl (nb rfl))) ?_ | refine AL.go (OpR.plain rfl (r_fieldAddrp fo_44_2 (by decide) rfl (nb rfl))) ?_
  first | refine AL.go (OpR.plain rfl (r_load ti_3 rfl rfl rfl (nb rfl))) ?_ | refine AL.go (OpR.plain rfl (r_loadp ti_3 rfl rfl (nb rfl))) ?_
  refine AL.go (OpR.plain rfl (r_bin rfl rfl (nb rfl) rfl (run_int_neq _ _ _))) ?_
  refine AL.nil ?_
  refine thenN ?_
  refine AW.condb rfl (fun h1 => ?_) (fun h1 => ?_)
  · have h1n := h1; try simp only [dtt, dff, bqi, bqf, bni, bnf, nt1, nf1, nt0, nf0, ne_eq, ilt, ile] at h1n
    refine AW.seq ?_
    refine AW.draw ?_
    refine DW.go (OpR.plain rfl (r_build pl_27 rfl zc_27 rfl rfl (by simp only [fillC, putAt, gez, ges, if_true, and_self, Nat.reduceLeDiff, true_and, tks, tkz, tkn, dps, dpz, cap, nap, apn, lnc, lnn, zad, Nat.reduceAdd, adz]; rfl) (nb rfl))) ?_
    first | refine DW.go (OpR.plain rfl (r_fieldAddr fo_44_2 (by decide) rfl (nb rfl))) ?_ | refine DW.go (OpR.plain rfl (r_fieldAddrp fo_44_2 (by decide) rfl (nb rfl))) ?_
    first | refine DW.go (OpR.plain rfl (r_load ti_3 rfl rfl rfl (nb rfl))) ?_ | refine DW.go (OpR.plain rfl (r_loadp ti_3 rfl rfl (nb rfl))) ?_
    refine DW.go (OpR.plain rfl (r_storeN ti_27 rfl rfl rfl rfl rfl (nb rfl) (by simp only [putAt, tks, tkz, tkn, dps, dpz, cap, nap, apn, lnc, lnn, zad, Nat.reduceAdd, adz]; rfl) (by rintro _ ⟨⟩))) ?_
    refine DW.go (OpR.plain rfl (r_assign rfl (nb rfl) (by rintro _ ⟨⟩))) ?_
    refine DW.fin mixed (by kernel_rfl) (by kernel_rfl) ?_
    refine thenN ?_
    refine AW.ret ?_
    refine thenR ?_
    refine fin_id (.inr rfl) (ends_of rfl (.cell ti_27 rfl rfl (by simp only [loaded, if_true, ler, tks, tkz, tkn, dps, dpz, cap, nap, apn, lnc, lnn, zad, Nat.reduceAdd, adz]; rfl) (.tmp rfl .nil))) ?_ .nil rfl rfl rfl rfl
    simp only [retA]
    first | (rw [show rexprM n s = _ from if_pos (eq_of h1)]; exact A.le_refl _) | (rw [show rexprM n s = _ from if_neg (ne_of h1)]; exact A.le_tup (.cons (A.le_agg (.cons (by first | exact C.le_nil | exact C.le_refl _) (.cons (by first | exact C.le_nil | exact C.le_refl _) (.cons (by first | exact C.le_nil | exact C.le_refl _) (.cons (by first | exact C.le_nil | exact C.le_refl _) (.cons (by first | exact C.le_nil | exact C.le_refl _) (.cons (by first | exact C.le_nil | exact C.le_refl _) (.cons (by first | exact C.le_nil | exact C.le_refl _) (.cons (by first | exact C.le_nil | exact C.le_refl _) (.cons (by first | exact C.le_nil | exact C.le_refl _) .nil)))))))))) (.cons (A.le_refl _) .nil)))
  · have h1n := h1; try simp only [dtt, dff, bqi, bqf, bni, bnf, nt1, nf1, nt0, nf0, ne_eq, ilt, ile] at h1n
    refine AW.skip ?_
    refine thenN ?_
    refine AW.seq ?_
    refine AW.region ?_
    first | refine AL.go (OpR.plain rfl (r_load ti_27 rfl rfl (by simp only [loaded, mpc, mpn, if_true, ler, tks, tkz, tkn, dps, dpz, cap, nap, apn, lnc, lnn, zad, Nat.reduceAdd, adz]; rfl) (nb rfl))) ?_ | refine AL.go (OpR.plain rfl (r_loadp ti_27 rfl (by simp only [loaded, mpc, mpn, if_true, ler, tks, tkz, tkn, dps, dpz, cap, nap, apn, lnc, lnn, zad, Nat.reduceAdd, adz]; rfl) (nb rfl))) ?_
    refine AL.go (OpR.plain rfl (r_storeN ti_27 rfl rfl rfl rfl rfl (nb rfl) (by simp only [putAt, tks, tkz, tkn, dps, dpz, cap, nap, apn, lnc, lnn, zad, Nat.reduceAdd, adz]; rfl) (by rintro _ ⟨⟩))) ?_
    refine AL.go (OpR.plain rfl (r_assign rfl (nb rfl) (by rintro _ ⟨⟩; rfl))) ?_
    refine AL.nil ?_
    refine thenN ?_
    refine AW.ret ?_
    refine fin_id (.inr rfl) (ends_of rfl (.cell ti_27 rfl rfl (by simp only [loaded, if_true, ler, tks, tkz, tkn, dps, dpz, cap, nap, apn, lnc, lnn, zad, Nat.reduceAdd, adz]; rfl) (.tmp rfl .nil))) ?_ .nil rfl rfl rfl rfl
    simp only [retA]
    first | (rw [show rexprM n s = _ from if_pos (eq_of h1)]; exact A.le_refl _) | (rw [show rexprM n s = _ from if_neg (ne_of h1)]; exact A.le_tup (.cons (A.le_agg (.cons (by first | exact C.le_nil | exact C.le_refl _) (.cons (by first | exact C.le_nil | exact C.le_refl _) (.cons (by first | exact C.le_nil | exact C.le_refl _) (.cons (by first | exact C.le_nil | exact C.le_refl _) (.cons (by first | exact C.le_nil | exact C.le_refl _) (.cons (by first | exact C.le_nil | exact C.le_refl _) (.cons (by first | exact C.le_nil | exact C.le_refl _) (.cons (by first | exact C.le_nil | exact C.le_refl _) (.cons (by first | exact C.le_nil | exact C.le_refl _) .nil)))))))))) (.cons (A.le_refl _) .nil)))

end Go.Par
