import Derived.Test.YtihcfphmikebgaaPar21
namespace Go.Par
open Go Go.Am Go.Proofs Go.RowKit
set_option linter.unusedVariables false
set_option linter.unusedSimpArgs false

theorem is_both {q : Pst} {a b : ByteArray} (ha : q.is a = true) (hb : q.is b = true) : a = b := by
  simp only [Pst.is, Bool.and_eq_true, dtt] at ha hb
  exact ha.2.symm.trans hb.2
theorem find_pl {q : Pst} {a b : ByteArray} (h : q.is a = true) : [a, b].find? q.is = some a := by simp [h]
theorem find_mi {q : Pst} {a b : ByteArray} (h : q.is a = false) (h2 : q.is b = true) : [a, b].find? q.is = some b := by simp [h, h2]
theorem find_nn {q : Pst} {a b : ByteArray} (h : q.is a = false) (h2 : q.is b = false) : [a, b].find? q.is = none := by simp [h, h2]
theorem RR_not_f {n d : Nat} {p : Pst} (h : p.is bNot = false) : RR (n + 1) (.parse .not) d p = RR n (.parse .test) d p := by
  rw [RR]; simp only [h]; rfl
theorem RR_not_l {n d : Nat} {p : Pst} (h : p.is bNot = true) (hd : (d : Int) = 50) : RR (n + 1) (.parse .not) d p = (exZero, p.fail 4) := by
  rw [RR, if_pos h, if_pos (by omega)]
theorem RR_not_t {n d : Nat} {p : Pst} (h : p.is bNot = true) (hd : ¬ (d : Int) = 50) : RR (n + 1) (.parse .not) d p = (exOf 12 [(RR n (.parse .not) (d + 1) p.step).1], (RR n (.parse .not) (d + 1) p.step).2) := by
  rw [RR, if_pos h, if_neg (by omega)]
theorem step_room {p : Pst} {s : ByteArray} (hg : Good p) (hs : p.is s = true) : Good p.step ∧ mz p.step + 20 ≤ mz p := by
  have he := Pst.is_e hs
  have hlt := Pst.is_lt hs
  refine ⟨(keeps_step hg hlt he).good, ?_⟩
  unfold mz
  rw [if_pos he, if_pos (show p.step.e = 0 from he)]
  show 20 * (p.l.length - (p.at_ + 1)) + 20 ≤ _
  omega

theorem en_48 : enters Try.prog 48 = true := by kernel_rfl
theorem en_64 : enters Try.prog 64 = true := by kernel_rfl

set_option maxHeartbeats 1000000 in
theorem rsum_s (n d : Nat) (hd : d ≤ 50) (p : Pst) (hg : Good p) (hm : mz p + Lv.sum.sub.rank ≤ n)
    (hsub : ∀ k q, Good q → mz q + Lv.sum.sub.rank ≤ k → k ≤ n → Am.Fun Try.prog 64 [atA q, A.i64 (d : Int)] (A.tup [atA (RR k (.parse Lv.sum.sub) d q).2, exA (RR k (.parse Lv.sum.sub) d q).1])) : Am.Spec Try.prog 60 [atA p, A.i64 (d : Int)] [] (A.tup [atA (RR n (.loop .sum (RR n (.parse Lv.sum.sub) d p).1) d (RR n (.parse Lv.sum.sub) d p).2).2, exA (RR n (.loop .sum (RR n (.parse Lv.sum.sub) d p).1) d (RR n (.parse Lv.sum.sub) d p).2).1]) [] := by
  refine spec_ofN (n := 38) Try.func60 rfl rfl (nb rfl) ?_
  show AW _ _ (⟨[(0, atA p), (1, A.i64 (d : Int))], [], []⟩ : St) _
  refine AW.seq ?_
  refine AW.region ?_
  refine AL.go (OpR.plain rfl (r_box 101 rfl rfl rfl (nb rfl) (by rintro _ ⟨⟩))) ?_
  refine AL.go (OpR.plain rfl (r_alloc 102 ti_44 zc_44 rfl rfl (nb rfl))) ?_
  refine AL.go (OpR.plain rfl (r_alloc 103 ti_27 zc_27 rfl rfl (nb rfl))) ?_
  refine AL.nil ?_
  refine thenN ?_
  refine AW.seq ?_
  refine AW.region ?_
  first | refine AL.go (OpR.plain rfl (r_load ti_44 rfl rfl (by simp only [loaded, mpc, mpn, if_true, ler, tks, tkz, tkn, dps, dpz, cap, nap, apn, lnc, lnn, zad, Nat.reduceAdd, adz]; rfl) (nb rfl))) ?_ | refine AL.go (OpR.plain rfl (r_loadp ti_44 rfl (by simp only [loaded, mpc, mpn, if_true, ler, tks, tkz, tkn, dps, dpz, cap, nap, apn, lnc, lnn, zad, Nat.reduceAdd, adz]; rfl) (nb rfl))) ?_
  refine AL.go (OpR.plain rfl (r_move rfl (nb rfl) (by rintro _ ⟨⟩))) ?_
  refine AL.go (OpR.plain rfl (r_callFun (hsub n p hg hm (ler _)) en_64 rfl rfl rfl rfl (.cons (A.le_refl _) (.cons (A.le_refl _) .nil)) rfl (nb rfl))) ?_
  refine AL.go (OpR.plain rfl (r_move rfl (nb rfl) (by rintro _ ⟨⟩))) ?_
  refine AL.go (OpR.plain rfl (r_extract rfl rfl (nb rfl))) ?_
  refine AL.go (OpR.plain rfl (r_extract rfl rfl (nb rfl))) ?_
  refine AL.go (OpR.plain rfl (r_alloc 104 ti_27 zc_27 rfl rfl (nb rfl))) ?_
  refine AL.go (OpR.plain rfl (r_storeN ti_44 rfl rfl rfl rfl rfl (nb rfl) (by simp only [putAt, tks, tkz, tkn, dps, dpz, cap, nap, apn, lnc, lnn, zad, Nat.reduceAdd, adz]; rfl) (by rintro _ ⟨⟩))) ?_
  refine AL.go (OpR.plain rfl (r_storeN ti_27 rfl rfl rfl rfl rfl (nb rfl) (by simp only [putAt, tks, tkz, tkn, dps, dpz, cap, nap, apn, lnc, lnn, zad, Nat.reduceAdd, adz]; rfl) (by rintro _ ⟨⟩))) ?_
  refine AL.nil ?_
  refine thenN ?_
  refine AW.seq ?_
  refine AW.block ?_
  refine AW.loop (ι := { x : Ex × Pst × Nat // RChI n .sum d p x.1 x.2.1 x.2.2 }) (fun x => ⟨[(1, A.i64 (d : Int)), (2, A.c (.ref 101 0)), (4, A.c (.ref 102 0)), (5, A.c (.ref 103 0)), (6, A.c (.ref 104 0))], [(101, atBox x.1.2.1), (102, .box [.d (.v (.slice none 0 0)), .d (.v (.int .i64 0)), .d (.v (.int .i64 0))]), (103, .box [.d (.v (.int .i64 0)), .d (.v (.string { data := #[] })), .d (.v (.string { data := #[] })), .d (.v (.int .i64 0)), .d (.v (.int .i64 0)), .d (.v (.int .i64 0)), .d (.v (.int .i64 0)), .d (.v (.string { data := #[] })), .d (.v (.slice none 0 0))]), (104, exBox x.1.1)], []⟩) (fun x => x.1.2.2) ⟨((RR n (.parse Lv.sum.sub) d p).1, (RR n (.parse Lv.sum.sub) d p).2, n), RChI.start hg hm⟩ (weakens_id (.cons rfl (A.le_of_eq (by first | rfl | (simp [A.ren, C.ren, renOf, lk]; done) | (simp [A.ren, C.ren, renOf, lk]; omega) | omega)) (.cons rfl (A.le_of_eq (by first | rfl | (simp [A.ren, C.ren, renOf, lk]; done) | (simp [A.ren, C.ren, renOf, lk]; omega) | omega)) (.cons rfl (A.le_of_eq (by first | rfl | (simp [A.ren, C.ren, renOf, lk]; done) | (simp [A.ren, C.ren, renOf, lk]; omega) | omega)) (.cons rfl (A.le_of_eq (by first | rfl | (simp [A.ren, C.ren, renOf, lk]; done) | (simp [A.ren, C.ren, renOf, lk]; omega) | omega)) (.cons rfl (A.le_of_eq (by first | rfl | (simp [A.ren, C.ren, renOf, lk]; done) | (simp [A.ren, C.ren, renOf, lk]; omega) | omega)) .nil))))) (.cons rfl (Ob.le_refl _) (.cons rfl (Ob.le_refl _) (.cons rfl (Ob.le_refl _) (.cons rfl (Ob.le_refl _) .nil)))) rfl rfl rfl rfl) ?_
  rintro ⟨⟨eE, qQ, mM⟩, hC⟩
  simp only at hC
  show AW _ _ (⟨[(1, A.i64 (d : Int)), (2, A.c (.ref 101 0)), (4, A.c (.ref 102 0)), (5, A.c (.ref 103 0)), (6, A.c (.ref 104 0))], [(101, atBox qQ), (102, .box [.d (.v (.slice none 0 0)), .d (.v (.int .i64 0)), .d (.v (.int .i64 0))]), (103, .box [.d (.v (.int .i64 0)), .d (.v (.string { data := #[] })), .d (.v (.string { data := #[] })), .d (.v (.int .i64 0)), .d (.v (.int .i64 0)), .d (.v (.int .i64 0)), .d (.v (.int .i64 0)), .d (.v (.string { data := #[] })), .d (.v (.slice none 0 0))]), (104, exBox eE)], []⟩ : St) _
  refine AW.seq ?_
  refine AW.seq ?_
  refine AW.region ?_
  first | refine AL.go (OpR.plain rfl (r_load ti_44 rfl rfl (by simp only [loaded, mpc, mpn, if_true, ler, tks, tkz, tkn, dps, dpz, cap, nap, apn, lnc, lnn, zad, Nat.reduceAdd, adz]; rfl) (nb rfl))) ?_ | refine AL.go (OpR.plain rfl (r_loadp ti_44 rfl (by simp only [loaded, mpc, mpn, if_true, ler, tks, tkz, tkn, dps, dpz, cap, nap, apn, lnc, lnn, zad, Nat.reduceAdd, adz]; rfl) (nb rfl))) ?_
  refine AL.go (OpR.plain rfl (r_callFun (ris_s qQ hC.good.ok _) en_23 rfl rfl rfl rfl (.cons (A.le_refl _) (.cons (A.le_refl _) .nil)) rfl (nb rfl))) ?_
  refine AL.go (OpR.plain rfl (r_move rfl (nb rfl) (by rintro _ ⟨⟩))) ?_
  refine AL.ifb (t := 18) rfl (fun h1 => ?_) (fun h1 => ?_)
  · have h1n := h1; try simp only [dtt, dff, bqi, bqf, bni, bnf, nt1, nf1, nt0, nf0, ne_eq, ilt, ile] at h1n
    refine AL.go (.off rfl rfl (nb rfl) rfl (by rw [h1]; decide) rfl (nb rfl)) ?_
    refine AL.go (.off rfl rfl (nb rfl) rfl (by rw [h1]; decide) rfl (nb rfl)) ?_
    refine AL.go (OpR.plain rfl (r_pickTb rfl (h1) rfl (nb rfl) (by rintro _ ⟨⟩; rfl))) ?_
    refine AL.nil ?_
    refine thenN ?_
    refine AW.condT rfl (rfl) ?_
    refine AW.skip ?_
    refine thenN ?_
    refine AW.block ?_
    refine AW.seq ?_
    refine AW.region ?_
    refine AL.go (OpR.plain rfl (r_assign rfl (nb rfl) (by rintro _ ⟨⟩; rfl))) ?_
    refine AL.nil ?_
    refine thenN ?_
    refine AW.seq ?_
    refine AW.seq ?_
    refine AW.region ?_
    first | refine AL.go (OpR.plain rfl (r_load ti_44 rfl rfl (by simp only [loaded, mpc, mpn, if_true, ler, tks, tkz, tkn, dps, dpz, cap, nap, apn, lnc, lnn, zad, Nat.reduceAdd, adz]; rfl) (nb rfl))) ?_ | refine AL.go (OpR.plain rfl (r_loadp ti_44 rfl (by simp only [loaded, mpc, mpn, if_true, ler, tks, tkz, tkn, dps, dpz, cap, nap, apn, lnc, lnn, zad, Nat.reduceAdd, adz]; rfl) (nb rfl))) ?_
    refine AL.go (OpR.plain rfl (r_callFun (ris_s qQ hC.good.ok _) en_23 rfl rfl rfl rfl (.cons (A.le_refl _) (.cons (A.le_refl _) .nil)) rfl (nb rfl))) ?_
    refine AL.nil ?_
    refine thenN ?_
    refine AW.condb rfl (fun h2 => ?_) (fun h2 => ?_)
    · exact absurd (is_both h1 h2) (by decide)
    · have h2n := h2; try simp only [dtt, dff, bqi, bqf, bni, bnf, nt1, nf1, nt0, nf0, ne_eq, ilt, ile] at h2n
      refine AW.skip ?_
      refine thenN ?_
      refine AW.seq ?_
      refine AW.region ?_
      have hR : Good qQ.step ∧ mz qQ.step + Lv.sum.sub.rank ≤ mM - 1 ∧ mM - 1 ≤ n := by first | exact hC.room h1 | exact hC.room h3
      first | refine AL.go (OpR.plain rfl (r_load ti_44 rfl rfl (by simp only [loaded, mpc, mpn, if_true, ler, tks, tkz, tkn, dps, dpz, cap, nap, apn, lnc, lnn, zad, Nat.reduceAdd, adz]; rfl) (nb rfl))) ?_ | refine AL.go (OpR.plain rfl (r_loadp ti_44 rfl (by simp only [loaded, mpc, mpn, if_true, ler, tks, tkz, tkn, dps, dpz, cap, nap, apn, lnc, lnn, zad, Nat.reduceAdd, adz]; rfl) (nb rfl))) ?_
      refine AL.go (OpR.plain rfl (r_callFun (rstep_s qQ hC.good.ok) en_24 rfl rfl rfl rfl (.cons (A.le_refl _) .nil) rfl (nb rfl))) ?_
      refine AL.go (OpR.plain rfl (r_move rfl (nb rfl) (by rintro _ ⟨⟩))) ?_
      refine AL.go (OpR.plain rfl (r_callFun (hsub (mM - 1) qQ.step hR.1 hR.2.1 hR.2.2) en_64 rfl rfl rfl rfl (.cons (A.le_refl _) (.cons (A.le_refl _) .nil)) rfl (nb rfl))) ?_
      refine AL.go (OpR.plain rfl (r_move rfl (nb rfl) (by rintro _ ⟨⟩))) ?_
      refine AL.go (OpR.plain rfl (r_extract rfl rfl (nb rfl))) ?_
      refine AL.go (OpR.plain rfl (r_extract rfl rfl (nb rfl))) ?_
      refine AL.go (OpR.plain rfl (r_alloc 105 ti_44 zc_44 rfl rfl (nb rfl))) ?_
      refine AL.go (OpR.plain rfl (r_alloc 106 ti_27 zc_27 rfl rfl (nb rfl))) ?_
      refine AL.go (OpR.plain rfl (r_storeN ti_44 rfl rfl rfl rfl rfl (nb rfl) (by simp only [putAt, tks, tkz, tkn, dps, dpz, cap, nap, apn, lnc, lnn, zad, Nat.reduceAdd, adz]; rfl) (by rintro _ ⟨⟩))) ?_
      refine AL.go (OpR.plain rfl (r_storeN ti_27 rfl rfl rfl rfl rfl (nb rfl) (by simp only [putAt, tks, tkz, tkn, dps, dpz, cap, nap, apn, lnc, lnn, zad, Nat.reduceAdd, adz]; rfl) (by rintro _ ⟨⟩))) ?_
      refine AL.nil ?_
      refine thenN ?_
      refine AW.draw ?_
      first | refine DW.go (OpR.plain rfl (r_load ti_44 rfl rfl (by simp only [loaded, mpc, mpn, if_true, ler, tks, tkz, tkn, dps, dpz, cap, nap, apn, lnc, lnn, zad, Nat.reduceAdd, adz]; rfl) (nb rfl))) ?_ | refine DW.go (OpR.plain rfl (r_loadp ti_44 rfl (by simp only [loaded, mpc, mpn, if_true, ler, tks, tkz, tkn, dps, dpz, cap, nap, apn, lnc, lnn, zad, Nat.reduceAdd, adz]; rfl) (nb rfl))) ?_
      refine DW.go (OpR.plain rfl (r_move rfl (nb rfl) (by rintro _ ⟨⟩))) ?_
      first | refine DW.go (OpR.plain rfl (r_load ti_27 rfl rfl (by simp only [loaded, mpc, mpn, if_true, ler, tks, tkz, tkn, dps, dpz, cap, nap, apn, lnc, lnn, zad, Nat.reduceAdd, adz]; rfl) (nb rfl))) ?_ | refine DW.go (OpR.plain rfl (r_loadp ti_27 rfl (by simp only [loaded, mpc, mpn, if_true, ler, tks, tkz, tkn, dps, dpz, cap, nap, apn, lnc, lnn, zad, Nat.reduceAdd, adz]; rfl) (nb rfl))) ?_
      first | refine DW.go (OpR.plain rfl (r_load ti_27 rfl rfl (by simp only [loaded, mpc, mpn, if_true, ler, tks, tkz, tkn, dps, dpz, cap, nap, apn, lnc, lnn, zad, Nat.reduceAdd, adz]; rfl) (nb rfl))) ?_ | refine DW.go (OpR.plain rfl (r_loadp ti_27 rfl (by simp only [loaded, mpc, mpn, if_true, ler, tks, tkz, tkn, dps, dpz, cap, nap, apn, lnc, lnn, zad, Nat.reduceAdd, adz]; rfl) (nb rfl))) ?_
      refine DW.go (OpR.plain rfl (r_callFun (two_s _ eE (RR (mM - 1) (.parse Lv.sum.sub) d qQ.step).1) en_25 rfl rfl rfl rfl (.cons (A.le_refl _) (.cons (A.le_refl _) (.cons (A.le_refl _) .nil))) rfl (nb rfl))) ?_
      refine DW.go (OpR.plain rfl (r_storeN ti_44 rfl rfl rfl rfl rfl (nb rfl) (by simp only [putAt, tks, tkz, tkn, dps, dpz, cap, nap, apn, lnc, lnn, zad, Nat.reduceAdd, adz]; rfl) (by rintro _ ⟨⟩))) ?_
      refine DW.go (OpR.plain rfl (r_storeN ti_27 rfl rfl rfl rfl rfl (nb rfl) (by simp only [putAt, tks, tkz, tkn, dps, dpz, cap, nap, apn, lnc, lnn, zad, Nat.reduceAdd, adz]; rfl) (by rintro _ ⟨⟩))) ?_
      refine DW.fin mixed (by kernel_rfl) (by kernel_rfl) ?_
      refine inbN ?_
      refine thenN ?_
      refine ⟨⟨(exOf 7 [eE, (RR (mM - 1) (.parse Lv.sum.sub) d qQ.step).1], (RR (mM - 1) (.parse Lv.sum.sub) d qQ.step).2, mM - 1), hC.next (find_pl h1) rfl⟩, by have := hC.lt; simp only; omega, weakens_id (.cons rfl (A.le_of_eq (by first | rfl | (simp [A.ren, C.ren, renOf, lk]; done) | (simp [A.ren, C.ren, renOf, lk]; omega) | omega)) (.cons rfl (A.le_of_eq (by first | rfl | (simp [A.ren, C.ren, renOf, lk]; done) | (simp [A.ren, C.ren, renOf, lk]; omega) | omega)) (.cons rfl (A.le_of_eq (by first | rfl | (simp [A.ren, C.ren, renOf, lk]; done) | (simp [A.ren, C.ren, renOf, lk]; omega) | omega)) (.cons rfl (A.le_of_eq (by first | rfl | (simp [A.ren, C.ren, renOf, lk]; done) | (simp [A.ren, C.ren, renOf, lk]; omega) | omega)) (.cons rfl (A.le_of_eq (by first | rfl | (simp [A.ren, C.ren, renOf, lk]; done) | (simp [A.ren, C.ren, renOf, lk]; omega) | omega)) .nil))))) (.cons rfl (Ob.le_refl _) (.cons rfl (Ob.le_refl _) (.cons rfl (Ob.le_refl _) (.cons rfl (Ob.le_refl _) .nil)))) rfl rfl rfl rfl⟩
  · have h1n := h1; try simp only [dtt, dff, bqi, bqf, bni, bnf, nt1, nf1, nt0, nf0, ne_eq, ilt, ile] at h1n
    first | refine AL.go (OpR.onb rfl rfl (nb rfl) rfl (h1) (r_load ti_44 rfl rfl (by simp only [loaded, mpc, mpn, if_true, ler, tks, tkz, tkn, dps, dpz, cap, nap, apn, lnc, lnn, zad, Nat.reduceAdd, adz]; rfl) (nb rfl))) ?_ | refine AL.go (OpR.onb rfl rfl (nb rfl) rfl (h1) (r_loadp ti_44 rfl (by simp only [loaded, mpc, mpn, if_true, ler, tks, tkz, tkn, dps, dpz, cap, nap, apn, lnc, lnn, zad, Nat.reduceAdd, adz]; rfl) (nb rfl))) ?_
    refine AL.go (OpR.onb rfl rfl (nb rfl) rfl (h1) (r_callFun (ris_s qQ hC.good.ok _) en_23 rfl rfl rfl rfl (.cons (A.le_refl _) (.cons (A.le_refl _) .nil)) rfl (nb rfl))) ?_
    refine AL.go (OpR.plain rfl (r_pickFb rfl (h1) rfl (nb rfl) (by rintro _ ⟨⟩))) ?_
    refine AL.nil ?_
    refine thenN ?_
    refine AW.condb rfl (fun h3 => ?_) (fun h3 => ?_)
    · have h3n := h3; try simp only [dtt, dff, bqi, bqf, bni, bnf, nt1, nf1, nt0, nf0, ne_eq, ilt, ile] at h3n
      refine AW.skip ?_
      refine thenN ?_
      refine AW.block ?_
      refine AW.seq ?_
      refine AW.region ?_
      refine AL.go (OpR.plain rfl (r_assign rfl (nb rfl) (by rintro _ ⟨⟩; rfl))) ?_
      refine AL.nil ?_
      refine thenN ?_
      refine AW.seq ?_
      refine AW.seq ?_
      refine AW.region ?_
      first | refine AL.go (OpR.plain rfl (r_load ti_44 rfl rfl (by simp only [loaded, mpc, mpn, if_true, ler, tks, tkz, tkn, dps, dpz, cap, nap, apn, lnc, lnn, zad, Nat.reduceAdd, adz]; rfl) (nb rfl))) ?_ | refine AL.go (OpR.plain rfl (r_loadp ti_44 rfl (by simp only [loaded, mpc, mpn, if_true, ler, tks, tkz, tkn, dps, dpz, cap, nap, apn, lnc, lnn, zad, Nat.reduceAdd, adz]; rfl) (nb rfl))) ?_
      refine AL.go (OpR.plain rfl (r_callFun (ris_s qQ hC.good.ok _) en_23 rfl rfl rfl rfl (.cons (A.le_refl _) (.cons (A.le_refl _) .nil)) rfl (nb rfl))) ?_
      refine AL.nil ?_
      refine thenN ?_
      refine AW.condb rfl (fun h4 => ?_) (fun h4 => ?_)
      · have h4n := h4; try simp only [dtt, dff, bqi, bqf, bni, bnf, nt1, nf1, nt0, nf0, ne_eq, ilt, ile] at h4n
        refine AW.region ?_
        refine AL.go (OpR.plain rfl (r_assign rfl (nb rfl) (by rintro _ ⟨⟩; rfl))) ?_
        refine AL.nil ?_
        refine thenN ?_
        refine AW.seq ?_
        refine AW.region ?_
        have hR : Good qQ.step ∧ mz qQ.step + Lv.sum.sub.rank ≤ mM - 1 ∧ mM - 1 ≤ n := by first | exact hC.room h1 | exact hC.room h3
        first | refine AL.go (OpR.plain rfl (r_load ti_44 rfl rfl (by simp only [loaded, mpc, mpn, if_true, ler, tks, tkz, tkn, dps, dpz, cap, nap, apn, lnc, lnn, zad, Nat.reduceAdd, adz]; rfl) (nb rfl))) ?_ | refine AL.go (OpR.plain rfl (r_loadp ti_44 rfl (by simp only [loaded, mpc, mpn, if_true, ler, tks, tkz, tkn, dps, dpz, cap, nap, apn, lnc, lnn, zad, Nat.reduceAdd, adz]; rfl) (nb rfl))) ?_
        refine AL.go (OpR.plain rfl (r_callFun (rstep_s qQ hC.good.ok) en_24 rfl rfl rfl rfl (.cons (A.le_refl _) .nil) rfl (nb rfl))) ?_
        refine AL.go (OpR.plain rfl (r_move rfl (nb rfl) (by rintro _ ⟨⟩))) ?_
        refine AL.go (OpR.plain rfl (r_callFun (hsub (mM - 1) qQ.step hR.1 hR.2.1 hR.2.2) en_64 rfl rfl rfl rfl (.cons (A.le_refl _) (.cons (A.le_refl _) .nil)) rfl (nb rfl))) ?_
        refine AL.go (OpR.plain rfl (r_move rfl (nb rfl) (by rintro _ ⟨⟩))) ?_
        refine AL.go (OpR.plain rfl (r_extract rfl rfl (nb rfl))) ?_
        refine AL.go (OpR.plain rfl (r_extract rfl rfl (nb rfl))) ?_
        refine AL.go (OpR.plain rfl (r_alloc 105 ti_44 zc_44 rfl rfl (nb rfl))) ?_
        refine AL.go (OpR.plain rfl (r_alloc 106 ti_27 zc_27 rfl rfl (nb rfl))) ?_
        refine AL.go (OpR.plain rfl (r_storeN ti_44 rfl rfl rfl rfl rfl (nb rfl) (by simp only [putAt, tks, tkz, tkn, dps, dpz, cap, nap, apn, lnc, lnn, zad, Nat.reduceAdd, adz]; rfl) (by rintro _ ⟨⟩))) ?_
        refine AL.go (OpR.plain rfl (r_storeN ti_27 rfl rfl rfl rfl rfl (nb rfl) (by simp only [putAt, tks, tkz, tkn, dps, dpz, cap, nap, apn, lnc, lnn, zad, Nat.reduceAdd, adz]; rfl) (by rintro _ ⟨⟩))) ?_
        refine AL.nil ?_
        refine thenN ?_
        refine AW.draw ?_
        first | refine DW.go (OpR.plain rfl (r_load ti_44 rfl rfl (by simp only [loaded, mpc, mpn, if_true, ler, tks, tkz, tkn, dps, dpz, cap, nap, apn, lnc, lnn, zad, Nat.reduceAdd, adz]; rfl) (nb rfl))) ?_ | refine DW.go (OpR.plain rfl (r_loadp ti_44 rfl (by simp only [loaded, mpc, mpn, if_true, ler, tks, tkz, tkn, dps, dpz, cap, nap, apn, lnc, lnn, zad, Nat.reduceAdd, adz]; rfl) (nb rfl))) ?_
        refine DW.go (OpR.plain rfl (r_move rfl (nb rfl) (by rintro _ ⟨⟩))) ?_
        first | refine DW.go (OpR.plain rfl (r_load ti_27 rfl rfl (by simp only [loaded, mpc, mpn, if_true, ler, tks, tkz, tkn, dps, dpz, cap, nap, apn, lnc, lnn, zad, Nat.reduceAdd, adz]; rfl) (nb rfl))) ?_ | refine DW.go (OpR.plain rfl (r_loadp ti_27 rfl (by simp only [loaded, mpc, mpn, if_true, ler, tks, tkz, tkn, dps, dpz, cap, nap, apn, lnc, lnn, zad, Nat.reduceAdd, adz]; rfl) (nb rfl))) ?_
        first | refine DW.go (OpR.plain rfl (r_load ti_27 rfl rfl (by simp only [loaded, mpc, mpn, if_true, ler, tks, tkz, tkn, dps, dpz, cap, nap, apn, lnc, lnn, zad, Nat.reduceAdd, adz]; rfl) (nb rfl))) ?_ | refine DW.go (OpR.plain rfl (r_loadp ti_27 rfl (by simp only [loaded, mpc, mpn, if_true, ler, tks, tkz, tkn, dps, dpz, cap, nap, apn, lnc, lnn, zad, Nat.reduceAdd, adz]; rfl) (nb rfl))) ?_
        refine DW.go (OpR.plain rfl (r_callFun (two_s _ eE (RR (mM - 1) (.parse Lv.sum.sub) d qQ.step).1) en_25 rfl rfl rfl rfl (.cons (A.le_refl _) (.cons (A.le_refl _) (.cons (A.le_refl _) .nil))) rfl (nb rfl))) ?_
        refine DW.go (OpR.plain rfl (r_storeN ti_44 rfl rfl rfl rfl rfl (nb rfl) (by simp only [putAt, tks, tkz, tkn, dps, dpz, cap, nap, apn, lnc, lnn, zad, Nat.reduceAdd, adz]; rfl) (by rintro _ ⟨⟩))) ?_
        refine DW.go (OpR.plain rfl (r_storeN ti_27 rfl rfl rfl rfl rfl (nb rfl) (by simp only [putAt, tks, tkz, tkn, dps, dpz, cap, nap, apn, lnc, lnn, zad, Nat.reduceAdd, adz]; rfl) (by rintro _ ⟨⟩))) ?_
        refine DW.fin mixed (by kernel_rfl) (by kernel_rfl) ?_
        refine inbN ?_
        refine thenN ?_
        refine ⟨⟨(exOf 8 [eE, (RR (mM - 1) (.parse Lv.sum.sub) d qQ.step).1], (RR (mM - 1) (.parse Lv.sum.sub) d qQ.step).2, mM - 1), hC.next (find_mi h1 h3) rfl⟩, by have := hC.lt; simp only; omega, weakens_id (.cons rfl (A.le_of_eq (by first | rfl | (simp [A.ren, C.ren, renOf, lk]; done) | (simp [A.ren, C.ren, renOf, lk]; omega) | omega)) (.cons rfl (A.le_of_eq (by first | rfl | (simp [A.ren, C.ren, renOf, lk]; done) | (simp [A.ren, C.ren, renOf, lk]; omega) | omega)) (.cons rfl (A.le_of_eq (by first | rfl | (simp [A.ren, C.ren, renOf, lk]; done) | (simp [A.ren, C.ren, renOf, lk]; omega) | omega)) (.cons rfl (A.le_of_eq (by first | rfl | (simp [A.ren, C.ren, renOf, lk]; done) | (simp [A.ren, C.ren, renOf, lk]; omega) | omega)) (.cons rfl (A.le_of_eq (by first | rfl | (simp [A.ren, C.ren, renOf, lk]; done) | (simp [A.ren, C.ren, renOf, lk]; omega) | omega)) .nil))))) (.cons rfl (Ob.le_refl _) (.cons rfl (Ob.le_refl _) (.cons rfl (Ob.le_refl _) (.cons rfl (Ob.le_refl _) .nil)))) rfl rfl rfl rfl⟩
      · exact absurd (h3.symm.trans h4) (by decide)
    · have h3n := h3; try simp only [dtt, dff, bqi, bqf, bni, bnf, nt1, nf1, nt0, nf0, ne_eq, ilt, ile] at h3n
      refine AW.exit ?_
      refine thenX ?_
      refine thenX ?_
      refine inbE ?_
      refine thenN ?_
      refine AW.seq ?_
      refine AW.draw ?_
      first | refine DW.go (OpR.plain rfl (r_load ti_44 rfl rfl (by simp only [loaded, mpc, mpn, if_true, ler, tks, tkz, tkn, dps, dpz, cap, nap, apn, lnc, lnn, zad, Nat.reduceAdd, adz]; rfl) (nb rfl))) ?_ | refine DW.go (OpR.plain rfl (r_loadp ti_44 rfl (by simp only [loaded, mpc, mpn, if_true, ler, tks, tkz, tkn, dps, dpz, cap, nap, apn, lnc, lnn, zad, Nat.reduceAdd, adz]; rfl) (nb rfl))) ?_
      first | refine DW.go (OpR.plain rfl (r_load ti_27 rfl rfl (by simp only [loaded, mpc, mpn, if_true, ler, tks, tkz, tkn, dps, dpz, cap, nap, apn, lnc, lnn, zad, Nat.reduceAdd, adz]; rfl) (nb rfl))) ?_ | refine DW.go (OpR.plain rfl (r_loadp ti_27 rfl (by simp only [loaded, mpc, mpn, if_true, ler, tks, tkz, tkn, dps, dpz, cap, nap, apn, lnc, lnn, zad, Nat.reduceAdd, adz]; rfl) (nb rfl))) ?_
      refine DW.go (OpR.plain rfl (r_storeN ti_44 rfl rfl rfl rfl rfl (nb rfl) (by simp only [putAt, tks, tkz, tkn, dps, dpz, cap, nap, apn, lnc, lnn, zad, Nat.reduceAdd, adz]; rfl) (by rintro _ ⟨⟩))) ?_
      refine DW.go (OpR.plain rfl (r_storeN ti_27 rfl rfl rfl rfl rfl (nb rfl) (by simp only [putAt, tks, tkz, tkn, dps, dpz, cap, nap, apn, lnc, lnn, zad, Nat.reduceAdd, adz]; rfl) (by rintro _ ⟨⟩))) ?_
      refine DW.fin mixed (by kernel_rfl) (by kernel_rfl) ?_
      refine thenN ?_
      refine AW.ret ?_
      refine fin_id (.inr rfl) (ends_of rfl (.cell ti_44 rfl rfl (by simp only [loaded, if_true, ler, tks, tkz, tkn, dps, dpz, cap, nap, apn, lnc, lnn, zad, Nat.reduceAdd, adz]; rfl) (.cell ti_27 rfl rfl (by simp only [loaded, if_true, ler, tks, tkz, tkn, dps, dpz, cap, nap, apn, lnc, lnn, zad, Nat.reduceAdd, adz]; rfl) .nil))) ?_ .nil rfl rfl rfl rfl
      simp only [retA]
      rw [hC.none (find_nn h1 h3)]
      exact A.le_refl _

set_option maxHeartbeats 1000000 in
theorem rnot_s (n d : Nat) (hd : d ≤ 50) (p : Pst) (hg : Good p) (hm : mz p + 5 ≤ n + 1)
    (htest : ∀ q, Good q → mz q + 4 ≤ n → Am.Fun Try.prog 48 [atA q, A.i64 (d : Int)] (A.tup [atA (RR n (.parse .test) d q).2, exA (RR n (.parse .test) d q).1]))
    (hnot : ∀ (d : Nat) q, d ≤ 50 → Good q → mz q + 5 ≤ n → Am.Fun Try.prog 34 [atA q, A.i64 (d : Int)] (A.tup [atA (RR n (.parse .not) d q).2, exA (RR n (.parse .not) d q).1])) : Am.Spec Try.prog 34 [atA p, A.i64 (d : Int)] [] (A.tup [atA (RR (n + 1) (.parse .not) d p).2, exA (RR (n + 1) (.parse .not) d p).1]) [] := by
  refine spec_ofN (n := 33) Try.func34 rfl rfl (nb rfl) ?_
  show AW _ _ (⟨[(0, atA p), (1, A.i64 (d : Int))], [], []⟩ : St) _
  refine AW.seq ?_
  refine AW.region ?_
  refine AL.go (OpR.plain rfl (r_box 101 rfl rfl rfl (nb rfl) (by rintro _ ⟨⟩))) ?_
  refine AL.go (OpR.plain rfl (r_alloc 102 ti_44 zc_44 rfl rfl (nb rfl))) ?_
  refine AL.go (OpR.plain rfl (r_alloc 103 ti_27 zc_27 rfl rfl (nb rfl))) ?_
  refine AL.nil ?_
  refine thenN ?_
  refine AW.seq ?_
  refine AW.seq ?_
  refine AW.region ?_
  first | refine AL.go (OpR.plain rfl (r_load ti_44 rfl rfl (by simp only [loaded, mpc, mpn, if_true, ler, tks, tkz, tkn, dps, dpz, cap, nap, apn, lnc, lnn, zad, Nat.reduceAdd, adz]; rfl) (nb rfl))) ?_ | refine AL.go (OpR.plain rfl (r_loadp ti_44 rfl (by simp only [loaded, mpc, mpn, if_true, ler, tks, tkz, tkn, dps, dpz, cap, nap, apn, lnc, lnn, zad, Nat.reduceAdd, adz]; rfl) (nb rfl))) ?_
  refine AL.go (OpR.plain rfl (r_callFun (ris_s p hg.ok _) en_23 rfl rfl rfl rfl (.cons (A.le_refl _) (.cons (A.le_refl _) .nil)) rfl (nb rfl))) ?_
  refine AL.go (OpR.plain rfl (r_not rfl (nb rfl))) ?_
  refine AL.nil ?_
  refine thenN ?_
  refine AW.condb rfl (fun h1 => ?_) (fun h1 => ?_)
  · have h1n := h1; try simp only [dtt, dff, bqi, bqf, bni, bnf, nt1, nf1, nt0, nf0, ne_eq, ilt, ile] at h1n
    refine AW.seq ?_
    refine AW.region ?_
    first | refine AL.go (OpR.plain rfl (r_load ti_44 rfl rfl (by simp only [loaded, mpc, mpn, if_true, ler, tks, tkz, tkn, dps, dpz, cap, nap, apn, lnc, lnn, zad, Nat.reduceAdd, adz]; rfl) (nb rfl))) ?_ | refine AL.go (OpR.plain rfl (r_loadp ti_44 rfl (by simp only [loaded, mpc, mpn, if_true, ler, tks, tkz, tkn, dps, dpz, cap, nap, apn, lnc, lnn, zad, Nat.reduceAdd, adz]; rfl) (nb rfl))) ?_
    refine AL.go (OpR.plain rfl (r_move rfl (nb rfl) (by rintro _ ⟨⟩))) ?_
    refine AL.go (OpR.plain rfl (r_callFun (htest p hg (by omega)) en_48 rfl rfl rfl rfl (.cons (A.le_refl _) (.cons (A.le_refl _) .nil)) rfl (nb rfl))) ?_
    refine AL.go (OpR.plain rfl (r_extract rfl rfl (nb rfl))) ?_
    refine AL.go (OpR.plain rfl (r_extract rfl rfl (nb rfl))) ?_
    refine AL.go (OpR.plain rfl (r_storeN ti_44 rfl rfl rfl rfl rfl (nb rfl) (by simp only [putAt, tks, tkz, tkn, dps, dpz, cap, nap, apn, lnc, lnn, zad, Nat.reduceAdd, adz]; rfl) (by rintro _ ⟨⟩))) ?_
    refine AL.go (OpR.plain rfl (r_storeN ti_27 rfl rfl rfl rfl rfl (nb rfl) (by simp only [putAt, tks, tkz, tkn, dps, dpz, cap, nap, apn, lnc, lnn, zad, Nat.reduceAdd, adz]; rfl) (by rintro _ ⟨⟩))) ?_
    refine AL.nil ?_
    refine thenN ?_
    refine AW.ret ?_
    refine thenR ?_
    refine fin_id (.inr rfl) (ends_of rfl (.cell ti_44 rfl rfl (by simp only [loaded, if_true, ler, tks, tkz, tkn, dps, dpz, cap, nap, apn, lnc, lnn, zad, Nat.reduceAdd, adz]; rfl) (.cell ti_27 rfl rfl (by simp only [loaded, if_true, ler, tks, tkz, tkn, dps, dpz, cap, nap, apn, lnc, lnn, zad, Nat.reduceAdd, adz]; rfl) .nil))) ?_ .nil rfl rfl rfl rfl
    simp only [retA]
    first | (rw [RR_not_f (by assumption)]; exact A.le_refl _) | (rw [RR_not_l (by assumption) (by assumption)]; exact A.le_tup (.cons (A.le_refl _) (.cons (A.le_agg (.cons (by first | exact C.le_nil | exact C.le_refl _) (.cons (by first | exact C.le_nil | exact C.le_refl _) (.cons (by first | exact C.le_nil | exact C.le_refl _) (.cons (by first | exact C.le_nil | exact C.le_refl _) (.cons (by first | exact C.le_nil | exact C.le_refl _) (.cons (by first | exact C.le_nil | exact C.le_refl _) (.cons (by first | exact C.le_nil | exact C.le_refl _) (.cons (by first | exact C.le_nil | exact C.le_refl _) (.cons (by first | exact C.le_nil | exact C.le_refl _) .nil)))))))))) .nil))) | (rw [RR_not_t (by assumption) (by assumption)]; exact A.le_tup (.cons (A.le_refl _) (.cons (A.le_agg (.cons (by first | exact C.le_refl _ | (refine C.le_trans C.le_nn (C.le_of_eq ?_); simp [Ex.l, Ex.rows, Ex.row_eq])) (.cons (by first | exact C.le_refl _ | (refine C.le_trans C.le_nn (C.le_of_eq ?_); simp [Ex.l, Ex.rows, Ex.row_eq])) (.cons (by first | exact C.le_refl _ | (refine C.le_trans C.le_nn (C.le_of_eq ?_); simp [Ex.l, Ex.rows, Ex.row_eq])) (.cons (by first | exact C.le_refl _ | (refine C.le_trans C.le_nn (C.le_of_eq ?_); simp [Ex.l, Ex.rows, Ex.row_eq])) (.cons (by first | exact C.le_refl _ | (refine C.le_trans C.le_nn (C.le_of_eq ?_); simp [Ex.l, Ex.rows, Ex.row_eq])) (.cons (by first | exact C.le_refl _ | (refine C.le_trans C.le_nn (C.le_of_eq ?_); simp [Ex.l, Ex.rows, Ex.row_eq])) (.cons (by first | exact C.le_refl _ | (refine C.le_trans C.le_nn (C.le_of_eq ?_); simp [Ex.l, Ex.rows, Ex.row_eq])) (.cons (by first | exact C.le_refl _ | (refine C.le_trans C.le_nn (C.le_of_eq ?_); simp [Ex.l, Ex.rows, Ex.row_eq])) (.cons (by first | exact C.le_refl _ | (refine C.le_trans C.le_nn (C.le_of_eq ?_); simp [Ex.l, Ex.rows, Ex.row_eq])) .nil)))))))))) .nil)))
  · have h1n := h1; try simp only [dtt, dff, bqi, bqf, bni, bnf, nt1, nf1, nt0, nf0, ne_eq, ilt, ile] at h1n
    refine AW.skip ?_
    refine thenN ?_
    refine AW.seq ?_
    refine AW.seq ?_
    refine AW.region ?_
    refine AL.go (OpR.plain rfl (r_move rfl (nb rfl) (by rintro _ ⟨⟩))) ?_
    refine AL.go (OpR.plain rfl (r_bin rfl rfl (nb rfl) rfl (run_int_eql _ _ _))) ?_
    refine AL.nil ?_
    refine thenN ?_
    refine AW.condb rfl (fun h2 => ?_) (fun h2 => ?_)
    · have h2n := h2; try simp only [dtt, dff, bqi, bqf, bni, bnf, nt1, nf1, nt0, nf0, ne_eq, ilt, ile] at h2n
      refine AW.seq ?_
      refine AW.region ?_
      first | refine AL.go (OpR.plain rfl (r_load ti_44 rfl rfl (by simp only [loaded, mpc, mpn, if_true, ler, tks, tkz, tkn, dps, dpz, cap, nap, apn, lnc, lnn, zad, Nat.reduceAdd, adz]; rfl) (nb rfl))) ?_ | refine AL.go (OpR.plain rfl (r_loadp ti_44 rfl (by simp only [loaded, mpc, mpn, if_true, ler, tks, tkz, tkn, dps, dpz, cap, nap, apn, lnc, lnn, zad, Nat.reduceAdd, adz]; rfl) (nb rfl))) ?_
      refine AL.go (OpR.plain rfl (r_callFun (rfail_s p _) en_28 rfl rfl rfl rfl (.cons (A.le_refl _) (.cons (A.le_refl _) .nil)) rfl (nb rfl))) ?_
      refine AL.go (OpR.plain rfl (r_build pl_27 rfl zc_27 rfl rfl (by simp only [fillC, putAt, gez, ges, if_true, and_self, Nat.reduceLeDiff, true_and, tks, tkz, tkn, dps, dpz, cap, nap, apn, lnc, lnn, zad, Nat.reduceAdd, adz]; rfl) (nb rfl))) ?_
      refine AL.go (OpR.plain rfl (r_storeN ti_44 rfl rfl rfl rfl rfl (nb rfl) (by simp only [putAt, tks, tkz, tkn, dps, dpz, cap, nap, apn, lnc, lnn, zad, Nat.reduceAdd, adz]; rfl) (by rintro _ ⟨⟩))) ?_
      refine AL.go (OpR.plain rfl (r_storeN ti_27 rfl rfl rfl rfl rfl (nb rfl) (by simp only [putAt, tks, tkz, tkn, dps, dpz, cap, nap, apn, lnc, lnn, zad, Nat.reduceAdd, adz]; rfl) (by rintro _ ⟨⟩))) ?_
      refine AL.nil ?_
      refine thenN ?_
      refine AW.ret ?_
      refine thenR ?_
      refine fin_id (.inr rfl) (ends_of rfl (.cell ti_44 rfl rfl (by simp only [loaded, if_true, ler, tks, tkz, tkn, dps, dpz, cap, nap, apn, lnc, lnn, zad, Nat.reduceAdd, adz]; rfl) (.cell ti_27 rfl rfl (by simp only [loaded, if_true, ler, tks, tkz, tkn, dps, dpz, cap, nap, apn, lnc, lnn, zad, Nat.reduceAdd, adz]; rfl) .nil))) ?_ .nil rfl rfl rfl rfl
      simp only [retA]
      first | (rw [RR_not_f (by assumption)]; exact A.le_refl _) | (rw [RR_not_l (by assumption) (by assumption)]; exact A.le_tup (.cons (A.le_refl _) (.cons (A.le_agg (.cons (by first | exact C.le_nil | exact C.le_refl _) (.cons (by first | exact C.le_nil | exact C.le_refl _) (.cons (by first | exact C.le_nil | exact C.le_refl _) (.cons (by first | exact C.le_nil | exact C.le_refl _) (.cons (by first | exact C.le_nil | exact C.le_refl _) (.cons (by first | exact C.le_nil | exact C.le_refl _) (.cons (by first | exact C.le_nil | exact C.le_refl _) (.cons (by first | exact C.le_nil | exact C.le_refl _) (.cons (by first | exact C.le_nil | exact C.le_refl _) .nil)))))))))) .nil))) | (rw [RR_not_t (by assumption) (by assumption)]; exact A.le_tup (.cons (A.le_refl _) (.cons (A.le_agg (.cons (by first | exact C.le_refl _ | (refine C.le_trans C.le_nn (C.le_of_eq ?_); simp [Ex.l, Ex.rows, Ex.row_eq])) (.cons (by first | exact C.le_refl _ | (refine C.le_trans C.le_nn (C.le_of_eq ?_); simp [Ex.l, Ex.rows, Ex.row_eq])) (.cons (by first | exact C.le_refl _ | (refine C.le_trans C.le_nn (C.le_of_eq ?_); simp [Ex.l, Ex.rows, Ex.row_eq])) (.cons (by first | exact C.le_refl _ | (refine C.le_trans C.le_nn (C.le_of_eq ?_); simp [Ex.l, Ex.rows, Ex.row_eq])) (.cons (by first | exact C.le_refl _ | (refine C.le_trans C.le_nn (C.le_of_eq ?_); simp [Ex.l, Ex.rows, Ex.row_eq])) (.cons (by first | exact C.le_refl _ | (refine C.le_trans C.le_nn (C.le_of_eq ?_); simp [Ex.l, Ex.rows, Ex.row_eq])) (.cons (by first | exact C.le_refl _ | (refine C.le_trans C.le_nn (C.le_of_eq ?_); simp [Ex.l, Ex.rows, Ex.row_eq])) (.cons (by first | exact C.le_refl _ | (refine C.le_trans C.le_nn (C.le_of_eq ?_); simp [Ex.l, Ex.rows, Ex.row_eq])) (.cons (by first | exact C.le_refl _ | (refine C.le_trans C.le_nn (C.le_of_eq ?_); simp [Ex.l, Ex.rows, Ex.row_eq])) .nil)))))))))) .nil)))
    · have h2n := h2; try simp only [dtt, dff, bqi, bqf, bni, bnf, nt1, nf1, nt0, nf0, ne_eq, ilt, ile] at h2n
      refine AW.skip ?_
      refine thenN ?_
      refine AW.seq ?_
      refine AW.region ?_
      have hs : p.is bNot = true := by simp_all
      have hS := step_room hg hs
      first | refine AL.go (OpR.plain rfl (r_load ti_44 rfl rfl (by simp only [loaded, mpc, mpn, if_true, ler, tks, tkz, tkn, dps, dpz, cap, nap, apn, lnc, lnn, zad, Nat.reduceAdd, adz]; rfl) (nb rfl))) ?_ | refine AL.go (OpR.plain rfl (r_loadp ti_44 rfl (by simp only [loaded, mpc, mpn, if_true, ler, tks, tkz, tkn, dps, dpz, cap, nap, apn, lnc, lnn, zad, Nat.reduceAdd, adz]; rfl) (nb rfl))) ?_
      refine AL.go (OpR.plain rfl (r_callFun (rstep_s p hg.ok) en_24 rfl rfl rfl rfl (.cons (A.le_refl _) .nil) rfl (nb rfl))) ?_
      refine AL.go (OpR.plain rfl (r_move rfl (nb rfl) (by rintro _ ⟨⟩))) ?_
      refine AL.go (OpR.plain rfl (r_add rfl rfl (nb rfl) (by first | omega | (simp only [dtt, dff, bqi, bqf, bni, nt1, nf1] at *; omega)) (by first | omega | (simp only [dtt, dff, bqi, bqf, bni, nt1, nf1] at *; omega)))) ?_
      refine AL.go (OpR.plain rfl (r_callFun (hnot (d + 1) p.step (by omega) hS.1 (by omega)) en_34 rfl rfl rfl rfl (.cons (A.le_refl _) (.cons (A.le_of_eq (by simp)) .nil)) rfl (nb rfl))) ?_
      refine AL.go (OpR.plain rfl (r_move rfl (nb rfl) (by rintro _ ⟨⟩))) ?_
      refine AL.go (OpR.plain rfl (r_extract rfl rfl (nb rfl))) ?_
      refine AL.go (OpR.plain rfl (r_extract rfl rfl (nb rfl))) ?_
      refine AL.go (OpR.plain rfl (r_alloc 104 ti_44 zc_44 rfl rfl (nb rfl))) ?_
      refine AL.go (OpR.plain rfl (r_alloc 105 ti_27 zc_27 rfl rfl (nb rfl))) ?_
      refine AL.go (OpR.plain rfl (r_storeN ti_44 rfl rfl rfl rfl rfl (nb rfl) (by simp only [putAt, tks, tkz, tkn, dps, dpz, cap, nap, apn, lnc, lnn, zad, Nat.reduceAdd, adz]; rfl) (by rintro _ ⟨⟩))) ?_
      refine AL.go (OpR.plain rfl (r_storeN ti_27 rfl rfl rfl rfl rfl (nb rfl) (by simp only [putAt, tks, tkz, tkn, dps, dpz, cap, nap, apn, lnc, lnn, zad, Nat.reduceAdd, adz]; rfl) (by rintro _ ⟨⟩))) ?_
      refine AL.nil ?_
      refine thenN ?_
      refine AW.seq ?_
      refine AW.draw ?_
      first | refine DW.go (OpR.plain rfl (r_load ti_44 rfl rfl (by simp only [loaded, mpc, mpn, if_true, ler, tks, tkz, tkn, dps, dpz, cap, nap, apn, lnc, lnn, zad, Nat.reduceAdd, adz]; rfl) (nb rfl))) ?_ | refine DW.go (OpR.plain rfl (r_loadp ti_44 rfl (by simp only [loaded, mpc, mpn, if_true, ler, tks, tkz, tkn, dps, dpz, cap, nap, apn, lnc, lnn, zad, Nat.reduceAdd, adz]; rfl) (nb rfl))) ?_
      first | refine DW.go (OpR.plain rfl (r_load ti_27 rfl rfl (by simp only [loaded, mpc, mpn, if_true, ler, tks, tkz, tkn, dps, dpz, cap, nap, apn, lnc, lnn, zad, Nat.reduceAdd, adz]; rfl) (nb rfl))) ?_ | refine DW.go (OpR.plain rfl (r_loadp ti_27 rfl (by simp only [loaded, mpc, mpn, if_true, ler, tks, tkz, tkn, dps, dpz, cap, nap, apn, lnc, lnn, zad, Nat.reduceAdd, adz]; rfl) (nb rfl))) ?_
      refine DW.go (OpR.plain rfl (r_buildSlice un_25 ti_27 rfl rfl rfl rfl rfl (by decide) (by decide) rfl (nb rfl))) ?_
      refine DW.go (OpR.plain rfl (r_build pl_27 rfl zc_27 rfl rfl (by simp only [fillC, putAt, gez, ges, if_true, and_self, Nat.reduceLeDiff, true_and, tks, tkz, tkn, dps, dpz, cap, nap, apn, lnc, lnn, zad, Nat.reduceAdd, adz]; rfl) (nb rfl))) ?_
      refine DW.go (OpR.plain rfl (r_storeN ti_44 rfl rfl rfl rfl rfl (nb rfl) (by simp only [putAt, tks, tkz, tkn, dps, dpz, cap, nap, apn, lnc, lnn, zad, Nat.reduceAdd, adz]; rfl) (by rintro _ ⟨⟩))) ?_
      refine DW.go (OpR.plain rfl (r_storeN ti_27 rfl rfl rfl rfl rfl (nb rfl) (by simp only [putAt, tks, tkz, tkn, dps, dpz, cap, nap, apn, lnc, lnn, zad, Nat.reduceAdd, adz]; rfl) (by rintro _ ⟨⟩))) ?_
      refine DW.fin mixed (by kernel_rfl) (by kernel_rfl) ?_
      refine thenN ?_
      refine AW.ret ?_
      refine fin_id (.inr rfl) (ends_of rfl (.cell ti_44 rfl rfl (by simp only [loaded, if_true, ler, tks, tkz, tkn, dps, dpz, cap, nap, apn, lnc, lnn, zad, Nat.reduceAdd, adz]; rfl) (.cell ti_27 rfl rfl (by simp only [loaded, if_true, ler, tks, tkz, tkn, dps, dpz, cap, nap, apn, lnc, lnn, zad, Nat.reduceAdd, adz]; rfl) .nil))) ?_ .nil rfl rfl rfl rfl
      simp only [retA]
      first | (rw [RR_not_f (by assumption)]; exact A.le_refl _) | (rw [RR_not_l (by assumption) (by assumption)]; exact A.le_tup (.cons (A.le_refl _) (.cons (A.le_agg (.cons (by first | exact C.le_nil | exact C.le_refl _) (.cons (by first | exact C.le_nil | exact C.le_refl _) (.cons (by first | exact C.le_nil | exact C.le_refl _) (.cons (by first | exact C.le_nil | exact C.le_refl _) (.cons (by first | exact C.le_nil | exact C.le_refl _) (.cons (by first | exact C.le_nil | exact C.le_refl _) (.cons (by first | exact C.le_nil | exact C.le_refl _) (.cons (by first | exact C.le_nil | exact C.le_refl _) (.cons (by first | exact C.le_nil | exact C.le_refl _) .nil)))))))))) .nil))) | (rw [RR_not_t (by assumption) (by assumption)]; exact A.le_tup (.cons (A.le_refl _) (.cons (A.le_agg (.cons (by first | exact C.le_refl _ | (refine C.le_trans C.le_nn (C.le_of_eq ?_); simp [Ex.l, Ex.rows, Ex.row_eq])) (.cons (by first | exact C.le_refl _ | (refine C.le_trans C.le_nn (C.le_of_eq ?_); simp [Ex.l, Ex.rows, Ex.row_eq])) (.cons (by first | exact C.le_refl _ | (refine C.le_trans C.le_nn (C.le_of_eq ?_); simp [Ex.l, Ex.rows, Ex.row_eq])) (.cons (by first | exact C.le_refl _ | (refine C.le_trans C.le_nn (C.le_of_eq ?_); simp [Ex.l, Ex.rows, Ex.row_eq])) (.cons (by first | exact C.le_refl _ | (refine C.le_trans C.le_nn (C.le_of_eq ?_); simp [Ex.l, Ex.rows, Ex.row_eq])) (.cons (by first | exact C.le_refl _ | (refine C.le_trans C.le_nn (C.le_of_eq ?_); simp [Ex.l, Ex.rows, Ex.row_eq])) (.cons (by first | exact C.le_refl _ | (refine C.le_trans C.le_nn (C.le_of_eq ?_); simp [Ex.l, Ex.rows, Ex.row_eq])) (.cons (by first | exact C.le_refl _ | (refine C.le_trans C.le_nn (C.le_of_eq ?_); simp [Ex.l, Ex.rows, Ex.row_eq])) (.cons (by first | exact C.le_refl _ | (refine C.le_trans C.le_nn (C.le_of_eq ?_); simp [Ex.l, Ex.rows, Ex.row_eq])) .nil)))))))))) .nil)))

end Go.Par
