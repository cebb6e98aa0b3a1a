import Derived.Test.YtihcfphmikebgaaPar20
namespace Go.Par
open Go Go.Am Go.Proofs Go.RowKit
set_option linter.unusedVariables false
set_option linter.unusedSimpArgs false

abbrev atBox (q : Pst) : Ob := .box [.d (tokRows q.l), .d (.v (.int .i64 q.at_)), .d (.v (.int .i64 q.e))]
structure RChI (n : Nat) (l : Lv) (d : Nat) (p : Pst) (e : Ex) (q : Pst) (m : Nat) : Prop where
  good : Good q
  v : RR n (.loop l (RR n (.parse l.sub) d p).1) d (RR n (.parse l.sub) d p).2 = RR m (.loop l e) d q
  lt : mz q < m
  le : m ≤ n
theorem RChI.start {n d : Nat} {l : Lv} {p : Pst} (hg : Good p) (hm : mz p + l.sub.rank ≤ n) : RChI n l d p (RR n (.parse l.sub) d p).1 (RR n (.parse l.sub) d p).2 n := by
  have h := RR_keeps n (.parse l.sub) d p hg
  have hr : 0 < l.sub.rank := by cases l <;> decide
  refine ⟨h.1.good, rfl, ?_, ler _⟩
  unfold mz at hm ⊢
  split
  · rename_i he
    have a := h.2 _ rfl he
    have b := h.1.l
    have hpe : p.e = 0 := by
      by_cases hc : p.e = 0
      · exact hc
      · rw [h.1.err hc] at he; exact he
    rw [if_pos hpe] at hm
    have c := h.1.good.ok.at_
    rw [b] at c ⊢
    omega
  · omega
theorem RChI.none {n m d : Nat} {l : Lv} {p q : Pst} {e : Ex} (h : RChI n l d p e q m) (hf : l.signs.find? q.is = none) : RR n (.loop l (RR n (.parse l.sub) d p).1) d (RR n (.parse l.sub) d p).2 = (e, q) := by
  obtain ⟨k, rfl⟩ : ∃ k, m = k + 1 := ⟨m - 1, by have := h.lt; omega⟩
  rw [h.v, RR, hf]
theorem RChI.room {n m d : Nat} {l : Lv} {p q : Pst} {e : Ex} {s : ByteArray} (h : RChI n l d p e q m) (hs : q.is s = true) : Good q.step ∧ mz q.step + l.sub.rank ≤ m - 1 ∧ m - 1 ≤ n := by
  have he := Pst.is_e hs
  have hlt := Pst.is_lt hs
  have hm := h.lt
  have hn := h.le
  have hr : l.sub.rank ≤ 7 := by cases l <;> decide
  refine ⟨(keeps_step h.good hlt he).good, ?_, by omega⟩
  have e1 : q.step.e = q.e := rfl
  have e2 : q.step.l = q.l := rfl
  have e3 : q.step.at_ = q.at_ + 1 := rfl
  unfold mz at hm ⊢
  rw [if_pos he] at hm
  rw [e1, if_pos he, e2, e3]
  omega
theorem RChI.next {n m d : Nat} {l : Lv} {p q : Pst} {e : Ex} {s : ByteArray} (h : RChI n l d p e q m) (hf : l.signs.find? q.is = some s) {op : Int} (ho : opOf s = op) :
    RChI n l d p (exOf op [e, (RR (m - 1) (.parse l.sub) d q.step).1]) (RR (m - 1) (.parse l.sub) d q.step).2 (m - 1) := by
  subst ho
  have hs := List.find?_some hf
  have he := Pst.is_e hs
  have hlt := Pst.is_lt hs
  obtain ⟨g1, g2, g3⟩ := h.room hs
  have hm := h.lt
  obtain ⟨k, rfl⟩ : ∃ k, m = k + 1 := ⟨m - 1, by omega⟩
  simp only [Nat.add_sub_cancel] at *
  have hk := RR_keeps k (.parse l.sub) d q.step g1
  refine ⟨hk.1.good, ?_, ?_, by omega⟩
  · rw [h.v, RR, hf]
  · have e1 : q.step.e = q.e := rfl
    have e2 : q.step.l = q.l := rfl
    have e3 : q.step.at_ = q.at_ + 1 := rfl
    have a := hk.1.at_
    have b := hk.1.l
    rw [e2] at b
    rw [e3] at a
    unfold mz at hm ⊢
    rw [if_pos he] at hm
    split
    · rw [b]; omega
    · omega
theorem find_one {q : Pst} {w : ByteArray} (h : q.is w = true) : [w].find? q.is = some w := by simp [h]
theorem find_no {q : Pst} {w : ByteArray} (h : q.is w = false) : [w].find? q.is = none := by simp [h]

theorem en_22 : enters Try.prog 22 = true := by kernel_rfl
theorem en_25 : enters Try.prog 25 = true := by kernel_rfl
theorem en_34 : enters Try.prog 34 = true := by kernel_rfl
theorem en_66 : enters Try.prog 66 = true := by kernel_rfl

set_option maxHeartbeats 1000000 in
theorem ror_s (n d : Nat) (hd : d ≤ 50) (p : Pst) (hg : Good p) (hm : mz p + Lv.or.sub.rank ≤ n)
    (hsub : ∀ k q, Good q → mz q + Lv.or.sub.rank ≤ k → k ≤ n → Am.Fun Try.prog 22 [atA q, A.i64 (d : Int)] (A.tup [atA (RR k (.parse Lv.or.sub) d q).2, exA (RR k (.parse Lv.or.sub) d q).1])) : Am.Spec Try.prog 14 [atA p, A.i64 (d : Int)] [] (A.tup [atA (RR n (.loop .or (RR n (.parse Lv.or.sub) d p).1) d (RR n (.parse Lv.or.sub) d p).2).2, exA (RR n (.loop .or (RR n (.parse Lv.or.sub) d p).1) d (RR n (.parse Lv.or.sub) d p).2).1]) [] := by
  refine spec_ofN (n := 30) Try.func14 rfl rfl (nb rfl) ?_
  show AW _ _ (⟨[(0, atA p), (1, A.i64 (d : Int))], [], []⟩ : St) _
  refine AW.seq ?_
  refine AW.region ?_
  refine AL.go (OpR.plain rfl (r_box 101 rfl rfl rfl (nb rfl) (by rintro _ ⟨⟩))) ?_
  refine AL.go (OpR.plain rfl (r_alloc 102 ti_44 zc_44 rfl rfl (nb rfl))) ?_
  refine AL.go (OpR.plain rfl (r_alloc 103 ti_27 zc_27 rfl rfl (nb rfl))) ?_
  refine AL.nil ?_
  refine thenN ?_
  refine AW.seq ?_
  refine AW.region ?_
  first | refine AL.go (OpR.plain rfl (r_load ti_44 rfl rfl (by simp only [loaded, mpc, mpn, if_true, ler, tks, tkz, tkn, dps, dpz, cap, nap, apn, lnc, lnn, zad, Nat.reduceAdd, adz]; rfl) (nb rfl))) ?_ | refine AL.go (OpR.plain rfl (r_loadp ti_44 rfl (by simp only [loaded, mpc, mpn, if_true, ler, tks, tkz, tkn, dps, dpz, cap, nap, apn, lnc, lnn, zad, Nat.reduceAdd, adz]; rfl) (nb rfl))) ?_
  refine AL.go (OpR.plain rfl (r_move rfl (nb rfl) (by rintro _ ⟨⟩))) ?_
  refine AL.go (OpR.plain rfl (r_callFun (hsub n p hg hm (ler _)) en_22 rfl rfl rfl rfl (.cons (A.le_refl _) (.cons (A.le_refl _) .nil)) rfl (nb rfl))) ?_
  refine AL.go (OpR.plain rfl (r_move rfl (nb rfl) (by rintro _ ⟨⟩))) ?_
  refine AL.go (OpR.plain rfl (r_extract rfl rfl (nb rfl))) ?_
  refine AL.go (OpR.plain rfl (r_extract rfl rfl (nb rfl))) ?_
  refine AL.go (OpR.plain rfl (r_alloc 104 ti_27 zc_27 rfl rfl (nb rfl))) ?_
  refine AL.go (OpR.plain rfl (r_storeN ti_44 rfl rfl rfl rfl rfl (nb rfl) (by simp only [putAt, tks, tkz, tkn, dps, dpz, cap, nap, apn, lnc, lnn, zad, Nat.reduceAdd, adz]; rfl) (by rintro _ ⟨⟩))) ?_
  refine AL.go (OpR.plain rfl (r_storeN ti_27 rfl rfl rfl rfl rfl (nb rfl) (by simp only [putAt, tks, tkz, tkn, dps, dpz, cap, nap, apn, lnc, lnn, zad, Nat.reduceAdd, adz]; rfl) (by rintro _ ⟨⟩))) ?_
  refine AL.nil ?_
  refine thenN ?_
  refine AW.seq ?_
  refine AW.block ?_
  refine AW.loop (ι := { x : Ex × Pst × Nat // RChI n .or d p x.1 x.2.1 x.2.2 }) (fun x => ⟨[(1, A.i64 (d : Int)), (2, A.c (.ref 101 0)), (4, A.c (.ref 102 0)), (5, A.c (.ref 103 0)), (6, A.c (.ref 104 0))], [(101, atBox x.1.2.1), (102, .box [.d (.v (.slice none 0 0)), .d (.v (.int .i64 0)), .d (.v (.int .i64 0))]), (103, .box [.d (.v (.int .i64 0)), .d (.v (.string { data := #[] })), .d (.v (.string { data := #[] })), .d (.v (.int .i64 0)), .d (.v (.int .i64 0)), .d (.v (.int .i64 0)), .d (.v (.int .i64 0)), .d (.v (.string { data := #[] })), .d (.v (.slice none 0 0))]), (104, exBox x.1.1)], []⟩) (fun x => x.1.2.2) ⟨((RR n (.parse Lv.or.sub) d p).1, (RR n (.parse Lv.or.sub) d p).2, n), RChI.start hg hm⟩ (weakens_id (.cons rfl (A.le_of_eq (by first | rfl | (simp [A.ren, C.ren, renOf, lk]; done) | (simp [A.ren, C.ren, renOf, lk]; omega) | omega)) (.cons rfl (A.le_of_eq (by first | rfl | (simp [A.ren, C.ren, renOf, lk]; done) | (simp [A.ren, C.ren, renOf, lk]; omega) | omega)) (.cons rfl (A.le_of_eq (by first | rfl | (simp [A.ren, C.ren, renOf, lk]; done) | (simp [A.ren, C.ren, renOf, lk]; omega) | omega)) (.cons rfl (A.le_of_eq (by first | rfl | (simp [A.ren, C.ren, renOf, lk]; done) | (simp [A.ren, C.ren, renOf, lk]; omega) | omega)) (.cons rfl (A.le_of_eq (by first | rfl | (simp [A.ren, C.ren, renOf, lk]; done) | (simp [A.ren, C.ren, renOf, lk]; omega) | omega)) .nil))))) (.cons rfl (Ob.le_refl _) (.cons rfl (Ob.le_refl _) (.cons rfl (Ob.le_refl _) (.cons rfl (Ob.le_refl _) .nil)))) rfl rfl rfl rfl) ?_
  rintro ⟨⟨eE, qQ, mM⟩, hC⟩
  simp only at hC
  show AW _ _ (⟨[(1, A.i64 (d : Int)), (2, A.c (.ref 101 0)), (4, A.c (.ref 102 0)), (5, A.c (.ref 103 0)), (6, A.c (.ref 104 0))], [(101, atBox qQ), (102, .box [.d (.v (.slice none 0 0)), .d (.v (.int .i64 0)), .d (.v (.int .i64 0))]), (103, .box [.d (.v (.int .i64 0)), .d (.v (.string { data := #[] })), .d (.v (.string { data := #[] })), .d (.v (.int .i64 0)), .d (.v (.int .i64 0)), .d (.v (.int .i64 0)), .d (.v (.int .i64 0)), .d (.v (.string { data := #[] })), .d (.v (.slice none 0 0))]), (104, exBox eE)], []⟩ : St) _
  refine AW.seq ?_
  refine AW.seq ?_
  refine AW.region ?_
  first | refine AL.go (OpR.plain rfl (r_load ti_44 rfl rfl (by simp only [loaded, mpc, mpn, if_true, ler, tks, tkz, tkn, dps, dpz, cap, nap, apn, lnc, lnn, zad, Nat.reduceAdd, adz]; rfl) (nb rfl))) ?_ | refine AL.go (OpR.plain rfl (r_loadp ti_44 rfl (by simp only [loaded, mpc, mpn, if_true, ler, tks, tkz, tkn, dps, dpz, cap, nap, apn, lnc, lnn, zad, Nat.reduceAdd, adz]; rfl) (nb rfl))) ?_
  refine AL.go (OpR.plain rfl (r_callFun (ris_s qQ hC.good.ok _) en_23 rfl rfl rfl rfl (.cons (A.le_refl _) (.cons (A.le_refl _) .nil)) rfl (nb rfl))) ?_
  refine AL.nil ?_
  refine thenN ?_
  refine AW.condb rfl (fun h1 => ?_) (fun h1 => ?_)
  · have h1n := h1; try simp only [dtt, dff, bqi, bqf, bni, bnf, nt1, nf1, nt0, nf0, ne_eq, ilt, ile] at h1n
    refine AW.skip ?_
    refine thenN ?_
    refine AW.block ?_
    refine AW.seq ?_
    refine AW.region ?_
    have hs : qQ.is ⟨#[111, 114]⟩ = true := by assumption
    have hR := hC.room hs
    first | refine AL.go (OpR.plain rfl (r_load ti_44 rfl rfl (by simp only [loaded, mpc, mpn, if_true, ler, tks, tkz, tkn, dps, dpz, cap, nap, apn, lnc, lnn, zad, Nat.reduceAdd, adz]; rfl) (nb rfl))) ?_ | refine AL.go (OpR.plain rfl (r_loadp ti_44 rfl (by simp only [loaded, mpc, mpn, if_true, ler, tks, tkz, tkn, dps, dpz, cap, nap, apn, lnc, lnn, zad, Nat.reduceAdd, adz]; rfl) (nb rfl))) ?_
    refine AL.go (OpR.plain rfl (r_callFun (rstep_s qQ hC.good.ok) en_24 rfl rfl rfl rfl (.cons (A.le_refl _) .nil) rfl (nb rfl))) ?_
    refine AL.go (OpR.plain rfl (r_move rfl (nb rfl) (by rintro _ ⟨⟩))) ?_
    refine AL.go (OpR.plain rfl (r_callFun (hsub (mM - 1) qQ.step hR.1 hR.2.1 hR.2.2) en_22 rfl rfl rfl rfl (.cons (A.le_refl _) (.cons (A.le_refl _) .nil)) rfl (nb rfl))) ?_
    refine AL.go (OpR.plain rfl (r_move rfl (nb rfl) (by rintro _ ⟨⟩))) ?_
    refine AL.go (OpR.plain rfl (r_extract rfl rfl (nb rfl))) ?_
    refine AL.go (OpR.plain rfl (r_extract rfl rfl (nb rfl))) ?_
    refine AL.go (OpR.plain rfl (r_alloc 105 ti_44 zc_44 rfl rfl (nb rfl))) ?_
    refine AL.go (OpR.plain rfl (r_alloc 106 ti_27 zc_27 rfl rfl (nb rfl))) ?_
    refine AL.go (OpR.plain rfl (r_storeN ti_44 rfl rfl rfl rfl rfl (nb rfl) (by simp only [putAt, tks, tkz, tkn, dps, dpz, cap, nap, apn, lnc, lnn, zad, Nat.reduceAdd, adz]; rfl) (by rintro _ ⟨⟩))) ?_
    refine AL.go (OpR.plain rfl (r_storeN ti_27 rfl rfl rfl rfl rfl (nb rfl) (by simp only [putAt, tks, tkz, tkn, dps, dpz, cap, nap, apn, lnc, lnn, zad, Nat.reduceAdd, adz]; rfl) (by rintro _ ⟨⟩))) ?_
    refine AL.nil ?_
    refine thenN ?_
    refine AW.draw ?_
    first | refine DW.go (OpR.plain rfl (r_load ti_44 rfl rfl (by simp only [loaded, mpc, mpn, if_true, ler, tks, tkz, tkn, dps, dpz, cap, nap, apn, lnc, lnn, zad, Nat.reduceAdd, adz]; rfl) (nb rfl))) ?_ | refine DW.go (OpR.plain rfl (r_loadp ti_44 rfl (by simp only [loaded, mpc, mpn, if_true, ler, tks, tkz, tkn, dps, dpz, cap, nap, apn, lnc, lnn, zad, Nat.reduceAdd, adz]; rfl) (nb rfl))) ?_
    first | refine DW.go (OpR.plain rfl (r_load ti_27 rfl rfl (by simp only [loaded, mpc, mpn, if_true, ler, tks, tkz, tkn, dps, dpz, cap, nap, apn, lnc, lnn, zad, Nat.reduceAdd, adz]; rfl) (nb rfl))) ?_ | refine DW.go (OpR.plain rfl (r_loadp ti_27 rfl (by simp only [loaded, mpc, mpn, if_true, ler, tks, tkz, tkn, dps, dpz, cap, nap, apn, lnc, lnn, zad, Nat.reduceAdd, adz]; rfl) (nb rfl))) ?_
    first | refine DW.go (OpR.plain rfl (r_load ti_27 rfl rfl (by simp only [loaded, mpc, mpn, if_true, ler, tks, tkz, tkn, dps, dpz, cap, nap, apn, lnc, lnn, zad, Nat.reduceAdd, adz]; rfl) (nb rfl))) ?_ | refine DW.go (OpR.plain rfl (r_loadp ti_27 rfl (by simp only [loaded, mpc, mpn, if_true, ler, tks, tkz, tkn, dps, dpz, cap, nap, apn, lnc, lnn, zad, Nat.reduceAdd, adz]; rfl) (nb rfl))) ?_
    refine DW.go (OpR.plain rfl (r_callFun (two_s 11 eE (RR (mM - 1) (.parse Lv.or.sub) d qQ.step).1) en_25 rfl rfl rfl rfl (.cons (A.le_refl _) (.cons (A.le_refl _) (.cons (A.le_refl _) .nil))) rfl (nb rfl))) ?_
    refine DW.go (OpR.plain rfl (r_storeN ti_44 rfl rfl rfl rfl rfl (nb rfl) (by simp only [putAt, tks, tkz, tkn, dps, dpz, cap, nap, apn, lnc, lnn, zad, Nat.reduceAdd, adz]; rfl) (by rintro _ ⟨⟩))) ?_
    refine DW.go (OpR.plain rfl (r_storeN ti_27 rfl rfl rfl rfl rfl (nb rfl) (by simp only [putAt, tks, tkz, tkn, dps, dpz, cap, nap, apn, lnc, lnn, zad, Nat.reduceAdd, adz]; rfl) (by rintro _ ⟨⟩))) ?_
    refine DW.fin mixed (by kernel_rfl) (by kernel_rfl) ?_
    refine inbN ?_
    refine thenN ?_
    refine ⟨⟨(exOf 11 [eE, (RR (mM - 1) (.parse Lv.or.sub) d qQ.step).1], (RR (mM - 1) (.parse Lv.or.sub) d qQ.step).2, mM - 1), hC.next (find_one hs) rfl⟩, by have := hC.lt; simp only; omega, weakens_id (.cons rfl (A.le_of_eq (by first | rfl | (simp [A.ren, C.ren, renOf, lk]; done) | (simp [A.ren, C.ren, renOf, lk]; omega) | omega)) (.cons rfl (A.le_of_eq (by first | rfl | (simp [A.ren, C.ren, renOf, lk]; done) | (simp [A.ren, C.ren, renOf, lk]; omega) | omega)) (.cons rfl (A.le_of_eq (by first | rfl | (simp [A.ren, C.ren, renOf, lk]; done) | (simp [A.ren, C.ren, renOf, lk]; omega) | omega)) (.cons rfl (A.le_of_eq (by first | rfl | (simp [A.ren, C.ren, renOf, lk]; done) | (simp [A.ren, C.ren, renOf, lk]; omega) | omega)) (.cons rfl (A.le_of_eq (by first | rfl | (simp [A.ren, C.ren, renOf, lk]; done) | (simp [A.ren, C.ren, renOf, lk]; omega) | omega)) .nil))))) (.cons rfl (Ob.le_refl _) (.cons rfl (Ob.le_refl _) (.cons rfl (Ob.le_refl _) (.cons rfl (Ob.le_refl _) .nil)))) rfl rfl rfl rfl⟩
  · have h1n := h1; try simp only [dtt, dff, bqi, bqf, bni, bnf, nt1, nf1, nt0, nf0, ne_eq, ilt, ile] at h1n
    refine AW.exit ?_
    refine thenX ?_
    refine thenX ?_
    refine inbE ?_
    refine thenN ?_
    refine AW.seq ?_
    refine AW.draw ?_
    first | refine DW.go (OpR.plain rfl (r_load ti_44 rfl rfl (by simp only [loaded, mpc, mpn, if_true, ler, tks, tkz, tkn, dps, dpz, cap, nap, apn, lnc, lnn, zad, Nat.reduceAdd, adz]; rfl) (nb rfl))) ?_ | refine DW.go (OpR.plain rfl (r_loadp ti_44 rfl (by simp only [loaded, mpc, mpn, if_true, ler, tks, tkz, tkn, dps, dpz, cap, nap, apn, lnc, lnn, zad, Nat.reduceAdd, adz]; rfl) (nb rfl))) ?_
    first | refine DW.go (OpR.plain rfl (r_load ti_27 rfl rfl (by simp only [loaded, mpc, mpn, if_true, ler, tks, tkz, tkn, dps, dpz, cap, nap, apn, lnc, lnn, zad, Nat.reduceAdd, adz]; rfl) (nb rfl))) ?_ | refine DW.go (OpR.plain rfl (r_loadp ti_27 rfl (by simp only [loaded, mpc, mpn, if_true, ler, tks, tkz, tkn, dps, dpz, cap, nap, apn, lnc, lnn, zad, Nat.reduceAdd, adz]; rfl) (nb rfl))) ?_
    refine DW.go (OpR.plain rfl (r_storeN ti_44 rfl rfl rfl rfl rfl (nb rfl) (by simp only [putAt, tks, tkz, tkn, dps, dpz, cap, nap, apn, lnc, lnn, zad, Nat.reduceAdd, adz]; rfl) (by rintro _ ⟨⟩))) ?_
    refine DW.go (OpR.plain rfl (r_storeN ti_27 rfl rfl rfl rfl rfl (nb rfl) (by simp only [putAt, tks, tkz, tkn, dps, dpz, cap, nap, apn, lnc, lnn, zad, Nat.reduceAdd, adz]; rfl) (by rintro _ ⟨⟩))) ?_
    refine DW.fin mixed (by kernel_rfl) (by kernel_rfl) ?_
    refine thenN ?_
    refine AW.ret ?_
    refine fin_id (.inr rfl) (ends_of rfl (.cell ti_44 rfl rfl (by simp only [loaded, if_true, ler, tks, tkz, tkn, dps, dpz, cap, nap, apn, lnc, lnn, zad, Nat.reduceAdd, adz]; rfl) (.cell ti_27 rfl rfl (by simp only [loaded, if_true, ler, tks, tkz, tkn, dps, dpz, cap, nap, apn, lnc, lnn, zad, Nat.reduceAdd, adz]; rfl) .nil))) ?_ .nil rfl rfl rfl rfl
    simp only [retA]
    rw [hC.none (find_no (by assumption))]
    exact A.le_refl _

set_option maxHeartbeats 1000000 in
theorem rand_s (n d : Nat) (hd : d ≤ 50) (p : Pst) (hg : Good p) (hm : mz p + Lv.and.sub.rank ≤ n)
    (hsub : ∀ k q, Good q → mz q + Lv.and.sub.rank ≤ k → k ≤ n → Am.Fun Try.prog 34 [atA q, A.i64 (d : Int)] (A.tup [atA (RR k (.parse Lv.and.sub) d q).2, exA (RR k (.parse Lv.and.sub) d q).1])) : Am.Spec Try.prog 22 [atA p, A.i64 (d : Int)] [] (A.tup [atA (RR n (.loop .and (RR n (.parse Lv.and.sub) d p).1) d (RR n (.parse Lv.and.sub) d p).2).2, exA (RR n (.loop .and (RR n (.parse Lv.and.sub) d p).1) d (RR n (.parse Lv.and.sub) d p).2).1]) [] := by
  refine spec_ofN (n := 30) Try.func22 rfl rfl (nb rfl) ?_
  show AW _ _ (⟨[(0, atA p), (1, A.i64 (d : Int))], [], []⟩ : St) _
  refine AW.seq ?_
  refine AW.region ?_
  refine AL.go (OpR.plain rfl (r_box 101 rfl rfl rfl (nb rfl) (by rintro _ ⟨⟩))) ?_
  refine AL.go (OpR.plain rfl (r_alloc 102 ti_44 zc_44 rfl rfl (nb rfl))) ?_
  refine AL.go (OpR.plain rfl (r_alloc 103 ti_27 zc_27 rfl rfl (nb rfl))) ?_
  refine AL.nil ?_
  refine thenN ?_
  refine AW.seq ?_
  refine AW.region ?_
  first | refine AL.go (OpR.plain rfl (r_load ti_44 rfl rfl (by simp only [loaded, mpc, mpn, if_true, ler, tks, tkz, tkn, dps, dpz, cap, nap, apn, lnc, lnn, zad, Nat.reduceAdd, adz]; rfl) (nb rfl))) ?_ | refine AL.go (OpR.plain rfl (r_loadp ti_44 rfl (by simp only [loaded, mpc, mpn, if_true, ler, tks, tkz, tkn, dps, dpz, cap, nap, apn, lnc, lnn, zad, Nat.reduceAdd, adz]; rfl) (nb rfl))) ?_
  refine AL.go (OpR.plain rfl (r_move rfl (nb rfl) (by rintro _ ⟨⟩))) ?_
  refine AL.go (OpR.plain rfl (r_callFun (hsub n p hg hm (ler _)) en_34 rfl rfl rfl rfl (.cons (A.le_refl _) (.cons (A.le_refl _) .nil)) rfl (nb rfl))) ?_
  refine AL.go (OpR.plain rfl (r_move rfl (nb rfl) (by rintro _ ⟨⟩))) ?_
  refine AL.go (OpR.plain rfl (r_extract rfl rfl (nb rfl))) ?_
  refine AL.go (OpR.plain rfl (r_extract rfl rfl (nb rfl))) ?_
  refine AL.go (OpR.plain rfl (r_alloc 104 ti_27 zc_27 rfl rfl (nb rfl))) ?_
  refine AL.go (OpR.plain rfl (r_storeN ti_44 rfl rfl rfl rfl rfl (nb rfl) (by simp only [putAt, tks, tkz, tkn, dps, dpz, cap, nap, apn, lnc, lnn, zad, Nat.reduceAdd, adz]; rfl) (by rintro _ ⟨⟩))) ?_
  refine AL.go (OpR.plain rfl (r_storeN ti_27 rfl rfl rfl rfl rfl (nb rfl) (by simp only [putAt, tks, tkz, tkn, dps, dpz, cap, nap, apn, lnc, lnn, zad, Nat.reduceAdd, adz]; rfl) (by rintro _ ⟨⟩))) ?_
  refine AL.nil ?_
  refine thenN ?_
  refine AW.seq ?_
  refine AW.block ?_
  refine AW.loop (ι := { x : Ex × Pst × Nat // RChI n .and d p x.1 x.2.1 x.2.2 }) (fun x => ⟨[(1, A.i64 (d : Int)), (2, A.c (.ref 101 0)), (4, A.c (.ref 102 0)), (5, A.c (.ref 103 0)), (6, A.c (.ref 104 0))], [(101, atBox x.1.2.1), (102, .box [.d (.v (.slice none 0 0)), .d (.v (.int .i64 0)), .d (.v (.int .i64 0))]), (103, .box [.d (.v (.int .i64 0)), .d (.v (.string { data := #[] })), .d (.v (.string { data := #[] })), .d (.v (.int .i64 0)), .d (.v (.int .i64 0)), .d (.v (.int .i64 0)), .d (.v (.int .i64 0)), .d (.v (.string { data := #[] })), .d (.v (.slice none 0 0))]), (104, exBox x.1.1)], []⟩) (fun x => x.1.2.2) ⟨((RR n (.parse Lv.and.sub) d p).1, (RR n (.parse Lv.and.sub) d p).2, n), RChI.start hg hm⟩ (weakens_id (.cons rfl (A.le_of_eq (by first | rfl | (simp [A.ren, C.ren, renOf, lk]; done) | (simp [A.ren, C.ren, renOf, lk]; omega) | omega)) (.cons rfl (A.le_of_eq (by first | rfl | (simp [A.ren, C.ren, renOf, lk]; done) | (simp [A.ren, C.ren, renOf, lk]; omega) | omega)) (.cons rfl (A.le_of_eq (by first | rfl | (simp [A.ren, C.ren, renOf, lk]; done) | (simp [A.ren, C.ren, renOf, lk]; omega) | omega)) (.cons rfl (A.le_of_eq (by first | rfl | (simp [A.ren, C.ren, renOf, lk]; done) | (simp [A.ren, C.ren, renOf, lk]; omega) | omega)) (.cons rfl (A.le_of_eq (by first | rfl | (simp [A.ren, C.ren, renOf, lk]; done) | (simp [A.ren, C.ren, renOf, lk]; omega) | omega)) .nil))))) (.cons rfl (Ob.le_refl _) (.cons rfl (Ob.le_refl _) (.cons rfl (Ob.le_refl _) (.cons rfl (Ob.le_refl _) .nil)))) rfl rfl rfl rfl) ?_
  rintro ⟨⟨eE, qQ, mM⟩, hC⟩
  simp only at hC
  show AW _ _ (⟨[(1, A.i64 (d : Int)), (2, A.c (.ref 101 0)), (4, A.c (.ref 102 0)), (5, A.c (.ref 103 0)), (6, A.c (.ref 104 0))], [(101, atBox qQ), (102, .box [.d (.v (.slice none 0 0)), .d (.v (.int .i64 0)), .d (.v (.int .i64 0))]), (103, .box [.d (.v (.int .i64 0)), .d (.v (.string { data := #[] })), .d (.v (.string { data := #[] })), .d (.v (.int .i64 0)), .d (.v (.int .i64 0)), .d (.v (.int .i64 0)), .d (.v (.int .i64 0)), .d (.v (.string { data := #[] })), .d (.v (.slice none 0 0))]), (104, exBox eE)], []⟩ : St) _
  refine AW.seq ?_
  refine AW.seq ?_
  refine AW.region ?_
  first | refine AL.go (OpR.plain rfl (r_load ti_44 rfl rfl (by simp only [loaded, mpc, mpn, if_true, ler, tks, tkz, tkn, dps, dpz, cap, nap, apn, lnc, lnn, zad, Nat.reduceAdd, adz]; rfl) (nb rfl))) ?_ | refine AL.go (OpR.plain rfl (r_loadp ti_44 rfl (by simp only [loaded, mpc, mpn, if_true, ler, tks, tkz, tkn, dps, dpz, cap, nap, apn, lnc, lnn, zad, Nat.reduceAdd, adz]; rfl) (nb rfl))) ?_
  refine AL.go (OpR.plain rfl (r_callFun (ris_s qQ hC.good.ok _) en_23 rfl rfl rfl rfl (.cons (A.le_refl _) (.cons (A.le_refl _) .nil)) rfl (nb rfl))) ?_
  refine AL.nil ?_
  refine thenN ?_
  refine AW.condb rfl (fun h1 => ?_) (fun h1 => ?_)
  · have h1n := h1; try simp only [dtt, dff, bqi, bqf, bni, bnf, nt1, nf1, nt0, nf0, ne_eq, ilt, ile] at h1n
    refine AW.skip ?_
    refine thenN ?_
    refine AW.block ?_
    refine AW.seq ?_
    refine AW.region ?_
    have hs : qQ.is ⟨#[97, 110, 100]⟩ = true := by assumption
    have hR := hC.room hs
    first | refine AL.go (OpR.plain rfl (r_load ti_44 rfl rfl (by simp only [loaded, mpc, mpn, if_true, ler, tks, tkz, tkn, dps, dpz, cap, nap, apn, lnc, lnn, zad, Nat.reduceAdd, adz]; rfl) (nb rfl))) ?_ | refine AL.go (OpR.plain rfl (r_loadp ti_44 rfl (by simp only [loaded, mpc, mpn, if_true, ler, tks, tkz, tkn, dps, dpz, cap, nap, apn, lnc, lnn, zad, Nat.reduceAdd, adz]; rfl) (nb rfl))) ?_
    refine AL.go (OpR.plain rfl (r_callFun (rstep_s qQ hC.good.ok) en_24 rfl rfl rfl rfl (.cons (A.le_refl _) .nil) rfl (nb rfl))) ?_
    refine AL.go (OpR.plain rfl (r_move rfl (nb rfl) (by rintro _ ⟨⟩))) ?_
    refine AL.go (OpR.plain rfl (r_callFun (hsub (mM - 1) qQ.step hR.1 hR.2.1 hR.2.2) en_34 rfl rfl rfl rfl (.cons (A.le_refl _) (.cons (A.le_refl _) .nil)) rfl (nb rfl))) ?_
    refine AL.go (OpR.plain rfl (r_move rfl (nb rfl) (by rintro _ ⟨⟩))) ?_
    refine AL.go (OpR.plain rfl (r_extract rfl rfl (nb rfl))) ?_
    refine AL.go (OpR.plain rfl (r_extract rfl rfl (nb rfl))) ?_
    refine AL.go (OpR.plain rfl (r_alloc 105 ti_44 zc_44 rfl rfl (nb rfl))) ?_
    refine AL.go (OpR.plain rfl (r_alloc 106 ti_27 zc_27 rfl rfl (nb rfl))) ?_
    refine AL.go (OpR.plain rfl (r_storeN ti_44 rfl rfl rfl rfl rfl (nb rfl) (by simp only [putAt, tks, tkz, tkn, dps, dpz, cap, nap, apn, lnc, lnn, zad, Nat.reduceAdd, adz]; rfl) (by rintro _ ⟨⟩))) ?_
    refine AL.go (OpR.plain rfl (r_storeN ti_27 rfl rfl rfl rfl rfl (nb rfl) (by simp only [putAt, tks, tkz, tkn, dps, dpz, cap, nap, apn, lnc, lnn, zad, Nat.reduceAdd, adz]; rfl) (by rintro _ ⟨⟩))) ?_
    refine AL.nil ?_
    refine thenN ?_
    refine AW.draw ?_
    first | refine DW.go (OpR.plain rfl (r_load ti_44 rfl rfl (by simp only [loaded, mpc, mpn, if_true, ler, tks, tkz, tkn, dps, dpz, cap, nap, apn, lnc, lnn, zad, Nat.reduceAdd, adz]; rfl) (nb rfl))) ?_ | refine DW.go (OpR.plain rfl (r_loadp ti_44 rfl (by simp only [loaded, mpc, mpn, if_true, ler, tks, tkz, tkn, dps, dpz, cap, nap, apn, lnc, lnn, zad, Nat.reduceAdd, adz]; rfl) (nb rfl))) ?_
    first | refine DW.go (OpR.plain rfl (r_load ti_27 rfl rfl (by simp only [loaded, mpc, mpn, if_true, ler, tks, tkz, tkn, dps, dpz, cap, nap, apn, lnc, lnn, zad, Nat.reduceAdd, adz]; rfl) (nb rfl))) ?_ | refine DW.go (OpR.plain rfl (r_loadp ti_27 rfl (by simp only [loaded, mpc, mpn, if_true, ler, tks, tkz, tkn, dps, dpz, cap, nap, apn, lnc, lnn, zad, Nat.reduceAdd, adz]; rfl) (nb rfl))) ?_
    first | refine DW.go (OpR.plain rfl (r_load ti_27 rfl rfl (by simp only [loaded, mpc, mpn, if_true, ler, tks, tkz, tkn, dps, dpz, cap, nap, apn, lnc, lnn, zad, Nat.reduceAdd, adz]; rfl) (nb rfl))) ?_ | refine DW.go (OpR.plain rfl (r_loadp ti_27 rfl (by simp only [loaded, mpc, mpn, if_true, ler, tks, tkz, tkn, dps, dpz, cap, nap, apn, lnc, lnn, zad, Nat.reduceAdd, adz]; rfl) (nb rfl))) ?_
    refine DW.go (OpR.plain rfl (r_callFun (two_s 10 eE (RR (mM - 1) (.parse Lv.and.sub) d qQ.step).1) en_25 rfl rfl rfl rfl (.cons (A.le_refl _) (.cons (A.le_refl _) (.cons (A.le_refl _) .nil))) rfl (nb rfl))) ?_
    refine DW.go (OpR.plain rfl (r_storeN ti_44 rfl rfl rfl rfl rfl (nb rfl) (by simp only [putAt, tks, tkz, tkn, dps, dpz, cap, nap, apn, lnc, lnn, zad, Nat.reduceAdd, adz]; rfl) (by rintro _ ⟨⟩))) ?_
    refine DW.go (OpR.plain rfl (r_storeN ti_27 rfl rfl rfl rfl rfl (nb rfl) (by simp only [putAt, tks, tkz, tkn, dps, dpz, cap, nap, apn, lnc, lnn, zad, Nat.reduceAdd, adz]; rfl) (by rintro _ ⟨⟩))) ?_
    refine DW.fin mixed (by kernel_rfl) (by kernel_rfl) ?_
    refine inbN ?_
    refine thenN ?_
    refine ⟨⟨(exOf 10 [eE, (RR (mM - 1) (.parse Lv.and.sub) d qQ.step).1], (RR (mM - 1) (.parse Lv.and.sub) d qQ.step).2, mM - 1), hC.next (find_one hs) rfl⟩, by have := hC.lt; simp only; omega, weakens_id (.cons rfl (A.le_of_eq (by first | rfl | (simp [A.ren, C.ren, renOf, lk]; done) | (simp [A.ren, C.ren, renOf, lk]; omega) | omega)) (.cons rfl (A.le_of_eq (by first | rfl | (simp [A.ren, C.ren, renOf, lk]; done) | (simp [A.ren, C.ren, renOf, lk]; omega) | omega)) (.cons rfl (A.le_of_eq (by first | rfl | (simp [A.ren, C.ren, renOf, lk]; done) | (simp [A.ren, C.ren, renOf, lk]; omega) | omega)) (.cons rfl (A.le_of_eq (by first | rfl | (simp [A.ren, C.ren, renOf, lk]; done) | (simp [A.ren, C.ren, renOf, lk]; omega) | omega)) (.cons rfl (A.le_of_eq (by first | rfl | (simp [A.ren, C.ren, renOf, lk]; done) | (simp [A.ren, C.ren, renOf, lk]; omega) | omega)) .nil))))) (.cons rfl (Ob.le_refl _) (.cons rfl (Ob.le_refl _) (.cons rfl (Ob.le_refl _) (.cons rfl (Ob.le_refl _) .nil)))) rfl rfl rfl rfl⟩
  · have h1n := h1; try simp only [dtt, dff, bqi, bqf, bni, bnf, nt1, nf1, nt0, nf0, ne_eq, ilt, ile] at h1n
    refine AW.exit ?_
    refine thenX ?_
    refine thenX ?_
    refine inbE ?_
    refine thenN ?_
    refine AW.seq ?_
    refine AW.draw ?_
    first | refine DW.go (OpR.plain rfl (r_load ti_44 rfl rfl (by simp only [loaded, mpc, mpn, if_true, ler, tks, tkz, tkn, dps, dpz, cap, nap, apn, lnc, lnn, zad, Nat.reduceAdd, adz]; rfl) (nb rfl))) ?_ | refine DW.go (OpR.plain rfl (r_loadp ti_44 rfl (by simp only [loaded, mpc, mpn, if_true, ler, tks, tkz, tkn, dps, dpz, cap, nap, apn, lnc, lnn, zad, Nat.reduceAdd, adz]; rfl) (nb rfl))) ?_
    first | refine DW.go (OpR.plain rfl (r_load ti_27 rfl rfl (by simp only [loaded, mpc, mpn, if_true, ler, tks, tkz, tkn, dps, dpz, cap, nap, apn, lnc, lnn, zad, Nat.reduceAdd, adz]; rfl) (nb rfl))) ?_ | refine DW.go (OpR.plain rfl (r_loadp ti_27 rfl (by simp only [loaded, mpc, mpn, if_true, ler, tks, tkz, tkn, dps, dpz, cap, nap, apn, lnc, lnn, zad, Nat.reduceAdd, adz]; rfl) (nb rfl))) ?_
    refine DW.go (OpR.plain rfl (r_storeN ti_44 rfl rfl rfl rfl rfl (nb rfl) (by simp only [putAt, tks, tkz, tkn, dps, dpz, cap, nap, apn, lnc, lnn, zad, Nat.reduceAdd, adz]; rfl) (by rintro _ ⟨⟩))) ?_
    refine DW.go (OpR.plain rfl (r_storeN ti_27 rfl rfl rfl rfl rfl (nb rfl) (by simp only [putAt, tks, tkz, tkn, dps, dpz, cap, nap, apn, lnc, lnn, zad, Nat.reduceAdd, adz]; rfl) (by rintro _ ⟨⟩))) ?_
    refine DW.fin mixed (by kernel_rfl) (by kernel_rfl) ?_
    refine thenN ?_
    refine AW.ret ?_
    refine fin_id (.inr rfl) (ends_of rfl (.cell ti_44 rfl rfl (by simp only [loaded, if_true, ler, tks, tkz, tkn, dps, dpz, cap, nap, apn, lnc, lnn, zad, Nat.reduceAdd, adz]; rfl) (.cell ti_27 rfl rfl (by simp only [loaded, if_true, ler, tks, tkz, tkn, dps, dpz, cap, nap, apn, lnc, lnn, zad, Nat.reduceAdd, adz]; rfl) .nil))) ?_ .nil rfl rfl rfl rfl
    simp only [retA]
    rw [hC.none (find_no (by assumption))]
    exact A.le_refl _

set_option maxHeartbeats 1000000 in
theorem rprod_s (n d : Nat) (hd : d ≤ 50) (p : Pst) (hg : Good p) (hm : mz p + Lv.prod.sub.rank ≤ n)
    (hsub : ∀ k q, Good q → mz q + Lv.prod.sub.rank ≤ k → k ≤ n → Am.Fun Try.prog 66 [atA q, A.i64 (d : Int)] (A.tup [atA (RR k (.parse Lv.prod.sub) d q).2, exA (RR k (.parse Lv.prod.sub) d q).1])) : Am.Spec Try.prog 64 [atA p, A.i64 (d : Int)] [] (A.tup [atA (RR n (.loop .prod (RR n (.parse Lv.prod.sub) d p).1) d (RR n (.parse Lv.prod.sub) d p).2).2, exA (RR n (.loop .prod (RR n (.parse Lv.prod.sub) d p).1) d (RR n (.parse Lv.prod.sub) d p).2).1]) [] := by
  refine spec_ofN (n := 30) Try.func64 rfl rfl (nb rfl) ?_
  show AW _ _ (⟨[(0, atA p), (1, A.i64 (d : Int))], [], []⟩ : St) _
  refine AW.seq ?_
  refine AW.region ?_
  refine AL.go (OpR.plain rfl (r_box 101 rfl rfl rfl (nb rfl) (by rintro _ ⟨⟩))) ?_
  refine AL.go (OpR.plain rfl (r_alloc 102 ti_44 zc_44 rfl rfl (nb rfl))) ?_
  refine AL.go (OpR.plain rfl (r_alloc 103 ti_27 zc_27 rfl rfl (nb rfl))) ?_
  refine AL.nil ?_
  refine thenN ?_
  refine AW.seq ?_
  refine AW.region ?_
  first | refine AL.go (OpR.plain rfl (r_load ti_44 rfl rfl (by simp only [loaded, mpc, mpn, if_true, ler, tks, tkz, tkn, dps, dpz, cap, nap, apn, lnc, lnn, zad, Nat.reduceAdd, adz]; rfl) (nb rfl))) ?_ | refine AL.go (OpR.plain rfl (r_loadp ti_44 rfl (by simp only [loaded, mpc, mpn, if_true, ler, tks, tkz, tkn, dps, dpz, cap, nap, apn, lnc, lnn, zad, Nat.reduceAdd, adz]; rfl) (nb rfl))) ?_
  refine AL.go (OpR.plain rfl (r_move rfl (nb rfl) (by rintro _ ⟨⟩))) ?_
  refine AL.go (OpR.plain rfl (r_callFun (hsub n p hg hm (ler _)) en_66 rfl rfl rfl rfl (.cons (A.le_refl _) (.cons (A.le_refl _) .nil)) rfl (nb rfl))) ?_
  refine AL.go (OpR.plain rfl (r_move rfl (nb rfl) (by rintro _ ⟨⟩))) ?_
  refine AL.go (OpR.plain rfl (r_extract rfl rfl (nb rfl))) ?_
  refine AL.go (OpR.plain rfl (r_extract rfl rfl (nb rfl))) ?_
  refine AL.go (OpR.plain rfl (r_alloc 104 ti_27 zc_27 rfl rfl (nb rfl))) ?_
  refine AL.go (OpR.plain rfl (r_storeN ti_44 rfl rfl rfl rfl rfl (nb rfl) (by simp only [putAt, tks, tkz, tkn, dps, dpz, cap, nap, apn, lnc, lnn, zad, Nat.reduceAdd, adz]; rfl) (by rintro _ ⟨⟩))) ?_
  refine AL.go (OpR.plain rfl (r_storeN ti_27 rfl rfl rfl rfl rfl (nb rfl) (by simp only [putAt, tks, tkz, tkn, dps, dpz, cap, nap, apn, lnc, lnn, zad, Nat.reduceAdd, adz]; rfl) (by rintro _ ⟨⟩))) ?_
  refine AL.nil ?_
  refine thenN ?_
  refine AW.seq ?_
  refine AW.block ?_
  refine AW.loop (ι := { x : Ex × Pst × Nat // RChI n .prod d p x.1 x.2.1 x.2.2 }) (fun x => ⟨[(1, A.i64 (d : Int)), (2, A.c (.ref 101 0)), (4, A.c (.ref 102 0)), (5, A.c (.ref 103 0)), (6, A.c (.ref 104 0))], [(101, atBox x.1.2.1), (102, .box [.d (.v (.slice none 0 0)), .d (.v (.int .i64 0)), .d (.v (.int .i64 0))]), (103, .box [.d (.v (.int .i64 0)), .d (.v (.string { data := #[] })), .d (.v (.string { data := #[] })), .d (.v (.int .i64 0)), .d (.v (.int .i64 0)), .d (.v (.int .i64 0)), .d (.v (.int .i64 0)), .d (.v (.string { data := #[] })), .d (.v (.slice none 0 0))]), (104, exBox x.1.1)], []⟩) (fun x => x.1.2.2) ⟨((RR n (.parse Lv.prod.sub) d p).1, (RR n (.parse Lv.prod.sub) d p).2, n), RChI.start hg hm⟩ (weakens_id (.cons rfl (A.le_of_eq (by first | rfl | (simp [A.ren, C.ren, renOf, lk]; done) | (simp [A.ren, C.ren, renOf, lk]; omega) | omega)) (.cons rfl (A.le_of_eq (by first | rfl | (simp [A.ren, C.ren, renOf, lk]; done) | (simp [A.ren, C.ren, renOf, lk]; omega) | omega)) (.cons rfl (A.le_of_eq (by first | rfl | (simp [A.ren, C.ren, renOf, lk]; done) | (simp [A.ren, C.ren, renOf, lk]; omega) | omega)) (.cons rfl (A.le_of_eq (by first | rfl | (simp [A.ren, C.ren, renOf, lk]; done) | (simp [A.ren, C.ren, renOf, lk]; omega) | omega)) (.cons rfl (A.le_of_eq (by first | rfl | (simp [A.ren, C.ren, renOf, lk]; done) | (simp [A.ren, C.ren, renOf, lk]; omega) | omega)) .nil))))) (.cons rfl (Ob.le_refl _) (.cons rfl (Ob.le_refl _) (.cons rfl (Ob.le_refl _) (.cons rfl (Ob.le_refl _) .nil)))) rfl rfl rfl rfl) ?_
  rintro ⟨⟨eE, qQ, mM⟩, hC⟩
  simp only at hC
  show AW _ _ (⟨[(1, A.i64 (d : Int)), (2, A.c (.ref 101 0)), (4, A.c (.ref 102 0)), (5, A.c (.ref 103 0)), (6, A.c (.ref 104 0))], [(101, atBox qQ), (102, .box [.d (.v (.slice none 0 0)), .d (.v (.int .i64 0)), .d (.v (.int .i64 0))]), (103, .box [.d (.v (.int .i64 0)), .d (.v (.string { data := #[] })), .d (.v (.string { data := #[] })), .d (.v (.int .i64 0)), .d (.v (.int .i64 0)), .d (.v (.int .i64 0)), .d (.v (.int .i64 0)), .d (.v (.string { data := #[] })), .d (.v (.slice none 0 0))]), (104, exBox eE)], []⟩ : St) _
  refine AW.seq ?_
  refine AW.seq ?_
  refine AW.region ?_
  first | refine AL.go (OpR.plain rfl (r_load ti_44 rfl rfl (by simp only [loaded, mpc, mpn, if_true, ler, tks, tkz, tkn, dps, dpz, cap, nap, apn, lnc, lnn, zad, Nat.reduceAdd, adz]; rfl) (nb rfl))) ?_ | refine AL.go (OpR.plain rfl (r_loadp ti_44 rfl (by simp only [loaded, mpc, mpn, if_true, ler, tks, tkz, tkn, dps, dpz, cap, nap, apn, lnc, lnn, zad, Nat.reduceAdd, adz]; rfl) (nb rfl))) ?_
  refine AL.go (OpR.plain rfl (r_callFun (ris_s qQ hC.good.ok _) en_23 rfl rfl rfl rfl (.cons (A.le_refl _) (.cons (A.le_refl _) .nil)) rfl (nb rfl))) ?_
  refine AL.nil ?_
  refine thenN ?_
  refine AW.condb rfl (fun h1 => ?_) (fun h1 => ?_)
  · have h1n := h1; try simp only [dtt, dff, bqi, bqf, bni, bnf, nt1, nf1, nt0, nf0, ne_eq, ilt, ile] at h1n
    refine AW.skip ?_
    refine thenN ?_
    refine AW.block ?_
    refine AW.seq ?_
    refine AW.region ?_
    have hs : qQ.is ⟨#[42]⟩ = true := by assumption
    have hR := hC.room hs
    first | refine AL.go (OpR.plain rfl (r_load ti_44 rfl rfl (by simp only [loaded, mpc, mpn, if_true, ler, tks, tkz, tkn, dps, dpz, cap, nap, apn, lnc, lnn, zad, Nat.reduceAdd, adz]; rfl) (nb rfl))) ?_ | refine AL.go (OpR.plain rfl (r_loadp ti_44 rfl (by simp only [loaded, mpc, mpn, if_true, ler, tks, tkz, tkn, dps, dpz, cap, nap, apn, lnc, lnn, zad, Nat.reduceAdd, adz]; rfl) (nb rfl))) ?_
    refine AL.go (OpR.plain rfl (r_callFun (rstep_s qQ hC.good.ok) en_24 rfl rfl rfl rfl (.cons (A.le_refl _) .nil) rfl (nb rfl))) ?_
    refine AL.go (OpR.plain rfl (r_move rfl (nb rfl) (by rintro _ ⟨⟩))) ?_
    refine AL.go (OpR.plain rfl (r_callFun (hsub (mM - 1) qQ.step hR.1 hR.2.1 hR.2.2) en_66 rfl rfl rfl rfl (.cons (A.le_refl _) (.cons (A.le_refl _) .nil)) rfl (nb rfl))) ?_
    refine AL.go (OpR.plain rfl (r_move rfl (nb rfl) (by rintro _ ⟨⟩))) ?_
    refine AL.go (OpR.plain rfl (r_extract rfl rfl (nb rfl))) ?_
    refine AL.go (OpR.plain rfl (r_extract rfl rfl (nb rfl))) ?_
    refine AL.go (OpR.plain rfl (r_alloc 105 ti_44 zc_44 rfl rfl (nb rfl))) ?_
    refine AL.go (OpR.plain rfl (r_alloc 106 ti_27 zc_27 rfl rfl (nb rfl))) ?_
    refine AL.go (OpR.plain rfl (r_storeN ti_44 rfl rfl rfl rfl rfl (nb rfl) (by simp only [putAt, tks, tkz, tkn, dps, dpz, cap, nap, apn, lnc, lnn, zad, Nat.reduceAdd, adz]; rfl) (by rintro _ ⟨⟩))) ?_
    refine AL.go (OpR.plain rfl (r_storeN ti_27 rfl rfl rfl rfl rfl (nb rfl) (by simp only [putAt, tks, tkz, tkn, dps, dpz, cap, nap, apn, lnc, lnn, zad, Nat.reduceAdd, adz]; rfl) (by rintro _ ⟨⟩))) ?_
    refine AL.nil ?_
    refine thenN ?_
    refine AW.draw ?_
    first | refine DW.go (OpR.plain rfl (r_load ti_44 rfl rfl (by simp only [loaded, mpc, mpn, if_true, ler, tks, tkz, tkn, dps, dpz, cap, nap, apn, lnc, lnn, zad, Nat.reduceAdd, adz]; rfl) (nb rfl))) ?_ | refine DW.go (OpR.plain rfl (r_loadp ti_44 rfl (by simp only [loaded, mpc, mpn, if_true, ler, tks, tkz, tkn, dps, dpz, cap, nap, apn, lnc, lnn, zad, Nat.reduceAdd, adz]; rfl) (nb rfl))) ?_
    first | refine DW.go (OpR.plain rfl (r_load ti_27 rfl rfl (by simp only [loaded, mpc, mpn, if_true, ler, tks, tkz, tkn, dps, dpz, cap, nap, apn, lnc, lnn, zad, Nat.reduceAdd, adz]; rfl) (nb rfl))) ?_ | refine DW.go (OpR.plain rfl (r_loadp ti_27 rfl (by simp only [loaded, mpc, mpn, if_true, ler, tks, tkz, tkn, dps, dpz, cap, nap, apn, lnc, lnn, zad, Nat.reduceAdd, adz]; rfl) (nb rfl))) ?_
    first | refine DW.go (OpR.plain rfl (r_load ti_27 rfl rfl (by simp only [loaded, mpc, mpn, if_true, ler, tks, tkz, tkn, dps, dpz, cap, nap, apn, lnc, lnn, zad, Nat.reduceAdd, adz]; rfl) (nb rfl))) ?_ | refine DW.go (OpR.plain rfl (r_loadp ti_27 rfl (by simp only [loaded, mpc, mpn, if_true, ler, tks, tkz, tkn, dps, dpz, cap, nap, apn, lnc, lnn, zad, Nat.reduceAdd, adz]; rfl) (nb rfl))) ?_
    refine DW.go (OpR.plain rfl (r_callFun (two_s 9 eE (RR (mM - 1) (.parse Lv.prod.sub) d qQ.step).1) en_25 rfl rfl rfl rfl (.cons (A.le_refl _) (.cons (A.le_refl _) (.cons (A.le_refl _) .nil))) rfl (nb rfl))) ?_
    refine DW.go (OpR.plain rfl (r_storeN ti_44 rfl rfl rfl rfl rfl (nb rfl) (by simp only [putAt, tks, tkz, tkn, dps, dpz, cap, nap, apn, lnc, lnn, zad, Nat.reduceAdd, adz]; rfl) (by rintro _ ⟨⟩))) ?_
    refine DW.go (OpR.plain rfl (r_storeN ti_27 rfl rfl rfl rfl rfl (nb rfl) (by simp only [putAt, tks, tkz, tkn, dps, dpz, cap, nap, apn, lnc, lnn, zad, Nat.reduceAdd, adz]; rfl) (by rintro _ ⟨⟩))) ?_
    refine DW.fin mixed (by kernel_rfl) (by kernel_rfl) ?_
    refine inbN ?_
    refine thenN ?_
    refine ⟨⟨(exOf 9 [eE, (RR (mM - 1) (.parse Lv.prod.sub) d qQ.step).1], (RR (mM - 1) (.parse Lv.prod.sub) d qQ.step).2, mM - 1), hC.next (find_one hs) rfl⟩, by have := hC.lt; simp only; omega, weakens_id (.cons rfl (A.le_of_eq (by first | rfl | (simp [A.ren, C.ren, renOf, lk]; done) | (simp [A.ren, C.ren, renOf, lk]; omega) | omega)) (.cons rfl (A.le_of_eq (by first | rfl | (simp [A.ren, C.ren, renOf, lk]; done) | (simp [A.ren, C.ren, renOf, lk]; omega) | omega)) (.cons rfl (A.le_of_eq (by first | rfl | (simp [A.ren, C.ren, renOf, lk]; done) | (simp [A.ren, C.ren, renOf, lk]; omega) | omega)) (.cons rfl (A.le_of_eq (by first | rfl | (simp [A.ren, C.ren, renOf, lk]; done) | (simp [A.ren, C.ren, renOf, lk]; omega) | omega)) (.cons rfl (A.le_of_eq (by first | rfl | (simp [A.ren, C.ren, renOf, lk]; done) | (simp [A.ren, C.ren, renOf, lk]; omega) | omega)) .nil))))) (.cons rfl (Ob.le_refl _) (.cons rfl (Ob.le_refl _) (.cons rfl (Ob.le_refl _) (.cons rfl (Ob.le_refl _) .nil)))) rfl rfl rfl rfl⟩
  · have h1n := h1; try simp only [dtt, dff, bqi, bqf, bni, bnf, nt1, nf1, nt0, nf0, ne_eq, ilt, ile] at h1n
    refine AW.exit ?_
    refine thenX ?_
    refine thenX ?_
    refine inbE ?_
    refine thenN ?_
    refine AW.seq ?_
    refine AW.draw ?_
    first | refine DW.go (OpR.plain rfl (r_load ti_44 rfl rfl (by simp only [loaded, mpc, mpn, if_true, ler, tks, tkz, tkn, dps, dpz, cap, nap, apn, lnc, lnn, zad, Nat.reduceAdd, adz]; rfl) (nb rfl))) ?_ | refine DW.go (OpR.plain rfl (r_loadp ti_44 rfl (by simp only [loaded, mpc, mpn, if_true, ler, tks, tkz, tkn, dps, dpz, cap, nap, apn, lnc, lnn, zad, Nat.reduceAdd, adz]; rfl) (nb rfl))) ?_
    first | refine DW.go (OpR.plain rfl (r_load ti_27 rfl rfl (by simp only [loaded, mpc, mpn, if_true, ler, tks, tkz, tkn, dps, dpz, cap, nap, apn, lnc, lnn, zad, Nat.reduceAdd, adz]; rfl) (nb rfl))) ?_ | refine DW.go (OpR.plain rfl (r_loadp ti_27 rfl (by simp only [loaded, mpc, mpn, if_true, ler, tks, tkz, tkn, dps, dpz, cap, nap, apn, lnc, lnn, zad, Nat.reduceAdd, adz]; rfl) (nb rfl))) ?_
    refine DW.go (OpR.plain rfl (r_storeN ti_44 rfl rfl rfl rfl rfl (nb rfl) (by simp only [putAt, tks, tkz, tkn, dps, dpz, cap, nap, apn, lnc, lnn, zad, Nat.reduceAdd, adz]; rfl) (by rintro _ ⟨⟩))) ?_
    refine DW.go (OpR.plain rfl (r_storeN ti_27 rfl rfl rfl rfl rfl (nb rfl) (by simp only [putAt, tks, tkz, tkn, dps, dpz, cap, nap, apn, lnc, lnn, zad, Nat.reduceAdd, adz]; rfl) (by rintro _ ⟨⟩))) ?_
    refine DW.fin mixed (by kernel_rfl) (by kernel_rfl) ?_
    refine thenN ?_
    refine AW.ret ?_
    refine fin_id (.inr rfl) (ends_of rfl (.cell ti_44 rfl rfl (by simp only [loaded, if_true, ler, tks, tkz, tkn, dps, dpz, cap, nap, apn, lnc, lnn, zad, Nat.reduceAdd, adz]; rfl) (.cell ti_27 rfl rfl (by simp only [loaded, if_true, ler, tks, tkz, tkn, dps, dpz, cap, nap, apn, lnc, lnn, zad, Nat.reduceAdd, adz]; rfl) .nil))) ?_ .nil rfl rfl rfl rfl
    simp only [retA]
    rw [hC.none (find_no (by assumption))]
    exact A.le_refl _

end Go.Par
