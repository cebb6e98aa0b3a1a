import Derived.Test.YtihcfphmikebgaaDoorPrt13
namespace Go.Par
open Go Go.Am Go.Proofs Go.RowKit
set_option linter.unusedVariables false
set_option linter.unusedSimpArgs false

theorem en_46 : enters Tryd.prog 46 = true := by kernel_rfl
theorem en_47 : enters Tryd.prog 47 = true := by kernel_rfl
theorem en_63 : enters Tryd.prog 63 = true := by kernel_rfl
theorem en_96 : enters Tryd.prog 96 = true := by kernel_rfl
theorem en_99 : enters Tryd.prog 99 = true := by kernel_rfl

theorem or_s (n : Nat) (p : Pst) (hg : Good p) (hm : mz p + Lv.or.sub.rank ≤ n)
    (hpart : ∀ k q, Good q → mz q + Lv.or.sub.rank ≤ k → k ≤ n → Am.Spec Tryd.prog 47 [A.c (.ref 0 0)] [(0, pbox q)] (exA (R k (.parse Lv.or.sub) q).1) [(0, pbox (R k (.parse Lv.or.sub) q).2)]) : Am.Spec Tryd.prog 23 [A.c (.ref 0 0)] [(0, pbox p)] (exA (R (n + 1) (.parse .or) p).1) [(0, pbox (R (n + 1) (.parse .or) p).2)] := by
  refine spec_ofN (n := 8) Tryd.func23 rfl rfl (nb rfl) ?_
  show AW _ _ (⟨[(0, A.c (.ref 0 0))], [(0, pbox p)], []⟩ : St) _
  refine AW.seq ?_
  refine AW.region ?_
  refine AL.go (OpR.plain rfl (r_alloc 101 ti_27 zc_27 rfl rfl (nb rfl))) ?_
  refine AL.nil ?_
  refine thenN ?_
  refine AW.seq ?_
  refine AW.region ?_
  refine AL.go (OpR.plain rfl (r_move rfl (nb rfl) (by rintro _ ⟨⟩))) ?_
  refine AL.go (OpR.plain rfl (r_move rfl (nb rfl) (by rintro _ ⟨⟩))) ?_
  refine AL.go (OpR.plain rfl (r_makeFunc (xs := [.ref 0 0]) (ys := []) rfl rfl (nb rfl) (by simp))) ?_
  refine AL.go (OpR.plain rfl (r_buildSlice un_60 ti_9 rfl rfl rfl rfl rfl (by decide) (by decide) rfl (nb rfl))) ?_
  refine AL.go (OpR.plain rfl (r_callId (chain_s n .or 47 p hg hm en_47 hpart) en_46 rfl rfl rfl rfl (.cons (A.le_refl _) (.cons (A.le_refl _) (.cons (A.le_of_eq rfl) .nil))) rfl (.cons rfl .nil) rfl rfl rfl (nb rfl))) ?_
  refine AL.go (OpR.plain rfl (r_storeN ti_27 rfl rfl rfl rfl rfl (nb rfl) (by simp only [putAt, tks, tkz, tkn, dps, dpz, cap, nap, apn, lnc, lnn, zad, Nat.reduceAdd, adz]; rfl) (by rintro _ ⟨⟩))) ?_
  refine AL.nil ?_
  refine thenN ?_
  refine AW.ret ?_
  refine fin_id (.inr rfl) (ends_of rfl (.cell ti_27 rfl rfl (by simp only [loaded, if_true, ler, tks, tkz, tkn, dps, dpz, cap, nap, apn, lnc, lnn, zad, Nat.reduceAdd, adz]; rfl) .nil)) ?_ (.cons rfl (Ob.le_refl _) .nil) rfl rfl rfl rfl
  simp only [retA]
  exact A.le_refl _

theorem and_s (n : Nat) (p : Pst) (hg : Good p) (hm : mz p + Lv.and.sub.rank ≤ n)
    (hpart : ∀ k q, Good q → mz q + Lv.and.sub.rank ≤ k → k ≤ n → Am.Spec Tryd.prog 63 [A.c (.ref 0 0)] [(0, pbox q)] (exA (R k (.parse Lv.and.sub) q).1) [(0, pbox (R k (.parse Lv.and.sub) q).2)]) : Am.Spec Tryd.prog 47 [A.c (.ref 0 0)] [(0, pbox p)] (exA (R (n + 1) (.parse .and) p).1) [(0, pbox (R (n + 1) (.parse .and) p).2)] := by
  refine spec_ofN (n := 8) Tryd.func47 rfl rfl (nb rfl) ?_
  show AW _ _ (⟨[(0, A.c (.ref 0 0))], [(0, pbox p)], []⟩ : St) _
  refine AW.seq ?_
  refine AW.region ?_
  refine AL.go (OpR.plain rfl (r_alloc 101 ti_27 zc_27 rfl rfl (nb rfl))) ?_
  refine AL.nil ?_
  refine thenN ?_
  refine AW.seq ?_
  refine AW.region ?_
  refine AL.go (OpR.plain rfl (r_move rfl (nb rfl) (by rintro _ ⟨⟩))) ?_
  refine AL.go (OpR.plain rfl (r_move rfl (nb rfl) (by rintro _ ⟨⟩))) ?_
  refine AL.go (OpR.plain rfl (r_makeFunc (xs := [.ref 0 0]) (ys := []) rfl rfl (nb rfl) (by simp))) ?_
  refine AL.go (OpR.plain rfl (r_buildSlice un_60 ti_9 rfl rfl rfl rfl rfl (by decide) (by decide) rfl (nb rfl))) ?_
  refine AL.go (OpR.plain rfl (r_callId (chain_s n .and 63 p hg hm en_63 hpart) en_46 rfl rfl rfl rfl (.cons (A.le_refl _) (.cons (A.le_refl _) (.cons (A.le_of_eq rfl) .nil))) rfl (.cons rfl .nil) rfl rfl rfl (nb rfl))) ?_
  refine AL.go (OpR.plain rfl (r_storeN ti_27 rfl rfl rfl rfl rfl (nb rfl) (by simp only [putAt, tks, tkz, tkn, dps, dpz, cap, nap, apn, lnc, lnn, zad, Nat.reduceAdd, adz]; rfl) (by rintro _ ⟨⟩))) ?_
  refine AL.nil ?_
  refine thenN ?_
  refine AW.ret ?_
  refine fin_id (.inr rfl) (ends_of rfl (.cell ti_27 rfl rfl (by simp only [loaded, if_true, ler, tks, tkz, tkn, dps, dpz, cap, nap, apn, lnc, lnn, zad, Nat.reduceAdd, adz]; rfl) .nil)) ?_ (.cons rfl (Ob.le_refl _) .nil) rfl rfl rfl rfl
  simp only [retA]
  exact A.le_refl _

theorem sum_s (n : Nat) (p : Pst) (hg : Good p) (hm : mz p + Lv.sum.sub.rank ≤ n)
    (hpart : ∀ k q, Good q → mz q + Lv.sum.sub.rank ≤ k → k ≤ n → Am.Spec Tryd.prog 96 [A.c (.ref 0 0)] [(0, pbox q)] (exA (R k (.parse Lv.sum.sub) q).1) [(0, pbox (R k (.parse Lv.sum.sub) q).2)]) : Am.Spec Tryd.prog 87 [A.c (.ref 0 0)] [(0, pbox p)] (exA (R (n + 1) (.parse .sum) p).1) [(0, pbox (R (n + 1) (.parse .sum) p).2)] := by
  refine spec_ofN (n := 8) Tryd.func87 rfl rfl (nb rfl) ?_
  show AW _ _ (⟨[(0, A.c (.ref 0 0))], [(0, pbox p)], []⟩ : St) _
  refine AW.seq ?_
  refine AW.region ?_
  refine AL.go (OpR.plain rfl (r_alloc 101 ti_27 zc_27 rfl rfl (nb rfl))) ?_
  refine AL.nil ?_
  refine thenN ?_
  refine AW.seq ?_
  refine AW.region ?_
  refine AL.go (OpR.plain rfl (r_move rfl (nb rfl) (by rintro _ ⟨⟩))) ?_
  refine AL.go (OpR.plain rfl (r_move rfl (nb rfl) (by rintro _ ⟨⟩))) ?_
  refine AL.go (OpR.plain rfl (r_makeFunc (xs := [.ref 0 0]) (ys := []) rfl rfl (nb rfl) (by simp))) ?_
  refine AL.go (OpR.plain rfl (r_buildSlice un_60 ti_9 rfl rfl rfl rfl rfl (by decide) (by decide) rfl (nb rfl))) ?_
  refine AL.go (OpR.plain rfl (r_callId (chain_s n .sum 96 p hg hm en_96 hpart) en_46 rfl rfl rfl rfl (.cons (A.le_refl _) (.cons (A.le_refl _) (.cons (A.le_of_eq rfl) .nil))) rfl (.cons rfl .nil) rfl rfl rfl (nb rfl))) ?_
  refine AL.go (OpR.plain rfl (r_storeN ti_27 rfl rfl rfl rfl rfl (nb rfl) (by simp only [putAt, tks, tkz, tkn, dps, dpz, cap, nap, apn, lnc, lnn, zad, Nat.reduceAdd, adz]; rfl) (by rintro _ ⟨⟩))) ?_
  refine AL.nil ?_
  refine thenN ?_
  refine AW.ret ?_
  refine fin_id (.inr rfl) (ends_of rfl (.cell ti_27 rfl rfl (by simp only [loaded, if_true, ler, tks, tkz, tkn, dps, dpz, cap, nap, apn, lnc, lnn, zad, Nat.reduceAdd, adz]; rfl) .nil)) ?_ (.cons rfl (Ob.le_refl _) .nil) rfl rfl rfl rfl
  simp only [retA]
  exact A.le_refl _

theorem prod_s (n : Nat) (p : Pst) (hg : Good p) (hm : mz p + Lv.prod.sub.rank ≤ n)
    (hpart : ∀ k q, Good q → mz q + Lv.prod.sub.rank ≤ k → k ≤ n → Am.Spec Tryd.prog 99 [A.c (.ref 0 0)] [(0, pbox q)] (exA (R k (.parse Lv.prod.sub) q).1) [(0, pbox (R k (.parse Lv.prod.sub) q).2)]) : Am.Spec Tryd.prog 96 [A.c (.ref 0 0)] [(0, pbox p)] (exA (R (n + 1) (.parse .prod) p).1) [(0, pbox (R (n + 1) (.parse .prod) p).2)] := by
  refine spec_ofN (n := 8) Tryd.func96 rfl rfl (nb rfl) ?_
  show AW _ _ (⟨[(0, A.c (.ref 0 0))], [(0, pbox p)], []⟩ : St) _
  refine AW.seq ?_
  refine AW.region ?_
  refine AL.go (OpR.plain rfl (r_alloc 101 ti_27 zc_27 rfl rfl (nb rfl))) ?_
  refine AL.nil ?_
  refine thenN ?_
  refine AW.seq ?_
  refine AW.region ?_
  refine AL.go (OpR.plain rfl (r_move rfl (nb rfl) (by rintro _ ⟨⟩))) ?_
  refine AL.go (OpR.plain rfl (r_move rfl (nb rfl) (by rintro _ ⟨⟩))) ?_
  refine AL.go (OpR.plain rfl (r_makeFunc (xs := [.ref 0 0]) (ys := []) rfl rfl (nb rfl) (by simp))) ?_
  refine AL.go (OpR.plain rfl (r_buildSlice un_60 ti_9 rfl rfl rfl rfl rfl (by decide) (by decide) rfl (nb rfl))) ?_
  refine AL.go (OpR.plain rfl (r_callId (chain_s n .prod 99 p hg hm en_99 hpart) en_46 rfl rfl rfl rfl (.cons (A.le_refl _) (.cons (A.le_refl _) (.cons (A.le_of_eq rfl) .nil))) rfl (.cons rfl .nil) rfl rfl rfl (nb rfl))) ?_
  refine AL.go (OpR.plain rfl (r_storeN ti_27 rfl rfl rfl rfl rfl (nb rfl) (by simp only [putAt, tks, tkz, tkn, dps, dpz, cap, nap, apn, lnc, lnn, zad, Nat.reduceAdd, adz]; rfl) (by rintro _ ⟨⟩))) ?_
  refine AL.nil ?_
  refine thenN ?_
  refine AW.ret ?_
  refine fin_id (.inr rfl) (ends_of rfl (.cell ti_27 rfl rfl (by simp only [loaded, if_true, ler, tks, tkz, tkn, dps, dpz, cap, nap, apn, lnc, lnn, zad, Nat.reduceAdd, adz]; rfl) .nil)) ?_ (.cons rfl (Ob.le_refl _) .nil) rfl rfl rfl rfl
  simp only [retA]
  exact A.le_refl _

end Go.Par
