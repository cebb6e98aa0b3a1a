import Derived.Test.YtihcfphmikebgaaDoorPrt12
namespace Go.Par
open Go Go.Am Go.Proofs Go.RowKit
set_option linter.unusedVariables false
set_option linter.unusedSimpArgs false

def Lv.rank : Lv → Nat
  | .atom => 1
  | .prod => 2
  | .sum => 3
  | .test => 4
  | .not => 5
  | .and => 6
  | .or => 7
def mz (q : Pst) : Nat := if q.e = 0 then 20 * (q.l.length - q.at_) else 0
abbrev exBox (e : Ex) : Ob := .box [.d (.v (.int .i64 e.op)), .d (.v (.string e.tab)), .d (.v (.string e.name)), .d (.v (.int .i64 e.t)), .d (.v (.int .i64 e.c)), .d (.v (.int .i64 e.val.kind)), .d (.v (.int .i64 e.val.i)), .d (.v (.string e.val.s)), .d (.sl false (Ex.rows e.l))]
/-- What is known at the head of chain's loop. -/
structure ChI (n : Nat) (l : Lv) (p : Pst) (e : Ex) (q : Pst) (m : Nat) : Prop where
  good : Good q
  v : R n (.loop l (R n (.parse l.sub) p).1) (R n (.parse l.sub) p).2 = R m (.loop l e) q
  lt : mz q < m
  le : m ≤ n
theorem ChI.start {n : Nat} {l : Lv} {p : Pst} (hg : Good p) (hm : mz p + l.sub.rank ≤ n) : ChI n l p (R n (.parse l.sub) p).1 (R n (.parse l.sub) p).2 n := by
  have h := R_keeps n (.parse l.sub) p hg
  have hr : 0 < l.sub.rank := by cases l <;> decide
  refine ⟨h.1.good, rfl, ?_, ler _⟩
  unfold mz at hm ⊢
  split
  · rename_i he
    have a := h.2 _ rfl he
    have b := h.1.l
    have hpe : p.e = 0 := by
      by_cases hc : p.e = 0
      · exact hc
      · rw [h.1.err hc] at he; exact he
    rw [if_pos hpe] at hm
    have c := h.1.good.ok.at_
    rw [b] at c ⊢
    omega
  · omega
theorem ChI.err {n m : Nat} {l : Lv} {p q : Pst} {e : Ex} (h : ChI n l p e q m) (he : ¬ q.e = 0) : R n (.loop l (R n (.parse l.sub) p).1) (R n (.parse l.sub) p).2 = (e, q) := by
  obtain ⟨k, rfl⟩ : ∃ k, m = k + 1 := ⟨m - 1, by have := h.lt; omega⟩
  rw [h.v, R, if_neg he]
theorem ChI.none {n m : Nat} {l : Lv} {p q : Pst} {e : Ex} (h : ChI n l p e q m) (hf : l.signs.find? q.is = none) : R n (.loop l (R n (.parse l.sub) p).1) (R n (.parse l.sub) p).2 = (e, q) := by
  obtain ⟨k, rfl⟩ : ∃ k, m = k + 1 := ⟨m - 1, by have := h.lt; omega⟩
  rw [h.v, R, hf]
  simp
theorem ChI.room {n m : Nat} {l : Lv} {p q : Pst} {e : Ex} {s : ByteArray} (h : ChI n l p e q m) (hs : q.is s = true) : Good q.step ∧ mz q.step + l.sub.rank ≤ m - 1 ∧ m - 1 ≤ n := by
  have he := Pst.is_e hs
  have hlt := Pst.is_lt hs
  have hm := h.lt
  have hn := h.le
  have hr : l.sub.rank ≤ 7 := by cases l <;> decide
  refine ⟨(keeps_step h.good hlt he).good, ?_, by omega⟩
  have e1 : q.step.e = q.e := rfl
  have e2 : q.step.l = q.l := rfl
  have e3 : q.step.at_ = q.at_ + 1 := rfl
  unfold mz at hm ⊢
  rw [if_pos he] at hm
  rw [e1, if_pos he, e2, e3]
  omega
theorem ChI.next {n m : Nat} {l : Lv} {p q : Pst} {e : Ex} {s : ByteArray} (h : ChI n l p e q m) (hf : l.signs.find? q.is = some s) :
    ChI n l p (exOf (opOf s) [e, (R (m - 1) (.parse l.sub) q.step).1]) (R (m - 1) (.parse l.sub) q.step).2 (m - 1) := by
  have hs := List.find?_some hf
  have he := Pst.is_e hs
  have hlt := Pst.is_lt hs
  obtain ⟨g1, g2, g3⟩ := h.room hs
  have hm := h.lt
  obtain ⟨k, rfl⟩ : ∃ k, m = k + 1 := ⟨m - 1, by omega⟩
  simp only [Nat.add_sub_cancel] at *
  have hk := R_keeps k (.parse l.sub) q.step g1
  refine ⟨hk.1.good, ?_, ?_, by omega⟩
  · rw [h.v, R, if_pos he, hf]
  · have e1 : q.step.e = q.e := rfl
    have e2 : q.step.l = q.l := rfl
    have e3 : q.step.at_ = q.at_ + 1 := rfl
    have a := hk.1.at_
    have b := hk.1.l
    rw [e2] at b
    rw [e3] at a
    unfold mz at hm ⊢
    rw [if_pos he] at hm
    split
    · rw [b]; omega
    · omega
theorem signs_ne {l : Lv} {s : ByteArray} (h : s ∈ l.signs) : s ≠ ⟨#[]⟩ := by
  cases l <;> simp only [Lv.signs, List.mem_cons, List.not_mem_nil, or_false] at h
  · subst h; decide
  · subst h; decide
  · rcases h with h | h <;> subst h <;> decide
  · subst h; decide
theorem signs_len {l : Lv} : l.signs.length ≤ 2 := by cases l <;> decide
theorem getD_mem {l : List ByteArray} {j : Nat} (h : j < l.length) : l.getD j ⟨#[]⟩ ∈ l := by
  rw [List.getD_eq_getElem?_getD, List.getElem?_eq_getElem h]
  simp
theorem take_t {q : Pst} {s : ByteArray} (h : q.is s = true) : q.take s = q.step := by unfold Pst.take; rw [if_pos h]
theorem take_f {q : Pst} {s : ByteArray} (h : q.is s = false) : q.take s = q := by unfold Pst.take; rw [h]; rfl

theorem en_55 : enters Tryd.prog 55 = true := by kernel_rfl
theorem en_62 : enters Tryd.prog 62 = true := by kernel_rfl

set_option maxHeartbeats 1000000 in
theorem chain_s (n : Nat) (l : Lv) (f : FuncId) (p : Pst) (hg : Good p) (hm : mz p + l.sub.rank ≤ n) (hent : enters Tryd.prog f = true)
    (hpart : ∀ k q, Good q → mz q + l.sub.rank ≤ k → k ≤ n → Am.Spec Tryd.prog f [A.c (.ref 0 0)] [(0, pbox q)] (exA (R k (.parse l.sub) q).1) [(0, pbox (R k (.parse l.sub) q).2)]) : Am.Spec Tryd.prog 46 [A.c (.ref 0 0), A.c (.clo (.func f) [.ref 0 0] []), A.c (.d (.sl true (strRows l.signs)))] [(0, pbox p)] (exA (R n (.loop l (R n (.parse l.sub) p).1) (R n (.parse l.sub) p).2).1) [(0, pbox (R n (.loop l (R n (.parse l.sub) p).1) (R n (.parse l.sub) p).2).2)] := by
  refine spec_ofN (n := 37) Tryd.func46 rfl rfl (nb rfl) ?_
  show AW _ _ (⟨[(0, A.c (.ref 0 0)), (1, A.c (.clo (.func f) [.ref 0 0] [])), (2, A.c (.d (.sl true (strRows l.signs))))], [(0, pbox p)], []⟩ : St) _
  refine AW.seq ?_
  refine AW.region ?_
  refine AL.go (OpR.plain rfl (r_alloc 101 ti_27 zc_27 rfl rfl (nb rfl))) ?_
  refine AL.nil ?_
  refine thenN ?_
  refine AW.seq ?_
  refine AW.region ?_
  refine AL.go (OpR.plain rfl (r_move rfl (nb rfl) (by rintro _ ⟨⟩))) ?_
  refine AL.go (OpR.plain rfl (r_callId (hpart n p hg hm (ler _)) hent rfl rfl rfl rfl (.cons (A.le_refl _) .nil) rfl (.cons rfl .nil) rfl rfl rfl (nb rfl))) ?_
  refine AL.go (OpR.plain rfl (r_alloc 102 ti_27 zc_27 rfl rfl (nb rfl))) ?_
  refine AL.go (OpR.plain rfl (r_storeN ti_27 rfl rfl rfl rfl rfl (nb rfl) (by simp only [putAt, tks, tkz, tkn, dps, dpz, cap, nap, apn, lnc, lnn, zad, Nat.reduceAdd, adz]; rfl) (by rintro _ ⟨⟩))) ?_
  refine AL.nil ?_
  refine thenN ?_
  refine AW.seq ?_
  refine AW.block ?_
  refine AW.loop (ι := { x : Ex × Pst × Nat // ChI n l p x.1 x.2.1 x.2.2 }) (fun x => ⟨[(0, A.c (.ref 0 0)), (1, A.c (.clo (.func f) [.ref 0 0] [])), (2, A.c (.d (.sl true (strRows l.signs)))), (6, A.c (.ref 101 0)), (7, A.c (.ref 102 0))], [(0, pbox x.1.2.1), (101, .box [.d (.v (.int .i64 0)), .d (.v (.string { data := #[] })), .d (.v (.string { data := #[] })), .d (.v (.int .i64 0)), .d (.v (.int .i64 0)), .d (.v (.int .i64 0)), .d (.v (.int .i64 0)), .d (.v (.string { data := #[] })), .d (.v (.slice none 0 0))]), (102, exBox x.1.1)], []⟩) (fun x => x.1.2.2) ⟨((R n (.parse l.sub) p).1, (R n (.parse l.sub) p).2, n), ChI.start hg hm⟩ (weakens_id (.cons rfl (A.le_of_eq (by first | rfl | (simp [A.ren, C.ren, renOf, lk]; done) | (simp [A.ren, C.ren, renOf, lk]; omega) | omega)) (.cons rfl (A.le_of_eq (by first | rfl | (simp [A.ren, C.ren, renOf, lk]; done) | (simp [A.ren, C.ren, renOf, lk]; omega) | omega)) (.cons rfl (A.le_of_eq (by first | rfl | (simp [A.ren, C.ren, renOf, lk]; done) | (simp [A.ren, C.ren, renOf, lk]; omega) | omega)) (.cons rfl (A.le_of_eq (by first | rfl | (simp [A.ren, C.ren, renOf, lk]; done) | (simp [A.ren, C.ren, renOf, lk]; omega) | omega)) (.cons rfl (A.le_of_eq (by first | rfl | (simp [A.ren, C.ren, renOf, lk]; done) | (simp [A.ren, C.ren, renOf, lk]; omega) | omega)) .nil))))) (.cons rfl (Ob.le_refl _) (.cons rfl (Ob.le_refl _) (.cons rfl (Ob.le_refl _) .nil))) rfl rfl rfl rfl) ?_
  rintro ⟨⟨eE, qQ, mM⟩, hC⟩
  simp only at hC
  show AW _ _ (⟨[(0, A.c (.ref 0 0)), (1, A.c (.clo (.func f) [.ref 0 0] [])), (2, A.c (.d (.sl true (strRows l.signs)))), (6, A.c (.ref 101 0)), (7, A.c (.ref 102 0))], [(0, pbox qQ), (101, .box [.d (.v (.int .i64 0)), .d (.v (.string { data := #[] })), .d (.v (.string { data := #[] })), .d (.v (.int .i64 0)), .d (.v (.int .i64 0)), .d (.v (.int .i64 0)), .d (.v (.int .i64 0)), .d (.v (.string { data := #[] })), .d (.v (.slice none 0 0))]), (102, exBox eE)], []⟩ : St) _
  refine AW.seq ?_
  refine AW.seq ?_
  refine AW.region ?_
  refine AL.go (OpR.plain rfl (r_move rfl (nb rfl) (by rintro _ ⟨⟩))) ?_
  refine AL.go (OpR.plain rfl (r_callId (ok_s qQ) en_25 rfl rfl rfl rfl (.cons (A.le_refl _) .nil) rfl (.cons rfl .nil) rfl rfl rfl (nb rfl))) ?_
  refine AL.nil ?_
  refine thenN ?_
  refine AW.condb rfl (fun h1 => ?_) (fun h1 => ?_)
  · have h1n := h1; try simp only [dtt, dff, bqi, bqf, bni, bnf, nt1, nf1, nt0, nf0, ne_eq, ilt, ile, Int.toNat_natCast, List.length_map] at h1n
    refine AW.skip ?_
    refine thenN ?_
    refine AW.block ?_
    refine AW.seq ?_
    refine AW.region ?_
    refine AL.go (OpR.plain rfl (r_assign rfl (nb rfl) (by rintro _ ⟨⟩; rfl))) ?_
    refine AL.nil ?_
    refine thenN ?_
    refine AW.seq ?_
    refine AW.seq ?_
    refine AW.region ?_
    refine AL.go (OpR.plain rfl (r_move rfl (nb rfl) (by rintro _ ⟨⟩))) ?_
    refine AL.go (OpR.plain rfl (r_len un_60 rfl (by first | exact .sl | exact .own | exact .row | exact .nil) (by intro _ h; cases h) (nb rfl) (by rintro _ ⟨⟩))) ?_
    refine AL.go (OpR.plain rfl (r_move rfl (nb rfl) (by rintro _ ⟨⟩; rfl))) ?_
    refine AL.nil ?_
    refine thenN ?_
    refine AW.block ?_
    refine AW.loop (ι := { x : Nat // x ≤ l.signs.length ∧ (l.signs.drop x).find? qQ.is = l.signs.find? qQ.is }) (fun x => ⟨[(0, A.c (.ref 0 0)), (1, A.c (.clo (.func f) [.ref 0 0] [])), (2, A.c (.d (.sl true (strRows l.signs)))), (6, A.c (.ref 101 0)), (7, A.c (.ref 102 0)), (8, A.val (.string { data := #[] })), (15, A.c (.d (.sl true (strRows l.signs)))), (16, A.i64 (l.signs.length : Int)), (17, A.i64 (x.1 : Int))], [(0, pbox qQ), (101, .box [.d (.v (.int .i64 0)), .d (.v (.string { data := #[] })), .d (.v (.string { data := #[] })), .d (.v (.int .i64 0)), .d (.v (.int .i64 0)), .d (.v (.int .i64 0)), .d (.v (.int .i64 0)), .d (.v (.string { data := #[] })), .d (.v (.slice none 0 0))]), (102, exBox eE)], []⟩) (fun x => l.signs.length - x.1) ⟨0, by simp⟩ (weakens_id (.cons rfl (A.le_of_eq (by first | rfl | (simp [A.ren, C.ren, renOf, lk]; done) | (simp [A.ren, C.ren, renOf, lk]; omega) | omega)) (.cons rfl (A.le_of_eq (by first | rfl | (simp [A.ren, C.ren, renOf, lk]; done) | (simp [A.ren, C.ren, renOf, lk]; omega) | omega)) (.cons rfl (A.le_of_eq (by first | rfl | (simp [A.ren, C.ren, renOf, lk]; done) | (simp [A.ren, C.ren, renOf, lk]; omega) | omega)) (.cons rfl (A.le_of_eq (by first | rfl | (simp [A.ren, C.ren, renOf, lk]; done) | (simp [A.ren, C.ren, renOf, lk]; omega) | omega)) (.cons rfl (A.le_of_eq (by first | rfl | (simp [A.ren, C.ren, renOf, lk]; done) | (simp [A.ren, C.ren, renOf, lk]; omega) | omega)) (.cons rfl (A.le_of_eq (by first | rfl | (simp [A.ren, C.ren, renOf, lk]; done) | (simp [A.ren, C.ren, renOf, lk]; omega) | omega)) (.cons rfl (A.le_of_eq (by first | rfl | (simp [A.ren, C.ren, renOf, lk]; done) | (simp [A.ren, C.ren, renOf, lk]; omega) | omega)) (.cons rfl (A.le_of_eq (by first | rfl | (simp [A.ren, C.ren, renOf, lk]; done) | (simp [A.ren, C.ren, renOf, lk]; omega) | omega)) (.cons rfl (A.le_of_eq (by first | rfl | (simp [A.ren, C.ren, renOf, lk]; done) | (simp [A.ren, C.ren, renOf, lk]; omega) | omega)) .nil))))))))) (.cons rfl (Ob.le_refl _) (.cons rfl (Ob.le_refl _) (.cons rfl (Ob.le_refl _) .nil))) rfl rfl rfl rfl) ?_
    rintro ⟨jJ, hI⟩
    have hIa := hI.1; have hlen := signs_len (l := l)
    show AW _ _ (⟨[(0, A.c (.ref 0 0)), (1, A.c (.clo (.func f) [.ref 0 0] [])), (2, A.c (.d (.sl true (strRows l.signs)))), (6, A.c (.ref 101 0)), (7, A.c (.ref 102 0)), (8, A.val (.string { data := #[] })), (15, A.c (.d (.sl true (strRows l.signs)))), (16, A.i64 (l.signs.length : Int)), (17, A.i64 (jJ : Int))], [(0, pbox qQ), (101, .box [.d (.v (.int .i64 0)), .d (.v (.string { data := #[] })), .d (.v (.string { data := #[] })), .d (.v (.int .i64 0)), .d (.v (.int .i64 0)), .d (.v (.int .i64 0)), .d (.v (.int .i64 0)), .d (.v (.string { data := #[] })), .d (.v (.slice none 0 0))]), (102, exBox eE)], []⟩ : St) _
    refine AW.seq ?_
    refine AW.region ?_
    refine AL.go (OpR.plain rfl (r_bin rfl rfl (nb rfl) rfl (run_int_lss _ _ _))) ?_
    refine AL.nil ?_
    refine thenN ?_
    refine AW.seq ?_
    refine AW.condb rfl (fun h2 => ?_) (fun h2 => ?_)
    · have h2n := h2; try simp only [dtt, dff, bqi, bqf, bni, bnf, nt1, nf1, nt0, nf0, ne_eq, ilt, ile, Int.toNat_natCast, List.length_map] at h2n
      refine AW.skip ?_
      refine thenN ?_
      refine AW.seq ?_
      refine AW.block ?_
      refine AW.seq ?_
      refine AW.region ?_
      refine AL.go (OpR.plain rfl (r_indexAddr un_60 ti_9 rfl (by first | exact .inl rfl | exact .inr ⟨_, rfl⟩) rfl str_len (by first | omega | (simp only [dtt, dff, bqi, bqf, bni, nt1, nf1] at *; omega)) (str_at (by omega) (by omega)) (nb rfl))) ?_
      first | refine AL.go (OpR.plain rfl (r_load ti_9 rfl rfl rfl (nb rfl))) ?_ | refine AL.go (OpR.plain rfl (r_loadp ti_9 rfl rfl (nb rfl))) ?_
      refine AL.go (OpR.plain rfl (r_assign rfl (nb rfl) (by rintro _ ⟨⟩))) ?_
      refine AL.nil ?_
      refine thenN ?_
      refine AW.seq ?_
      refine AW.region ?_
      refine AL.go (OpR.plain rfl (r_move rfl (nb rfl) (by rintro _ ⟨⟩))) ?_
      refine AL.go (OpR.plain rfl (r_move rfl (nb rfl) (by rintro _ ⟨⟩))) ?_
      refine AL.go (OpR.plain rfl (r_callId (take_s qQ hC.good.ok _) en_42 rfl rfl rfl rfl (.cons (A.le_refl _) (.cons (A.le_refl _) .nil)) rfl (.cons rfl .nil) rfl rfl rfl (nb rfl))) ?_
      refine AL.nil ?_
      refine thenN ?_
      refine AW.condb rfl (fun h3 => ?_) (fun h3 => ?_)
      · have h3n := h3; try simp only [dtt, dff, bqi, bqf, bni, bnf, nt1, nf1, nt0, nf0, ne_eq, ilt, ile, Int.toNat_natCast, List.length_map] at h3n
        refine AW.seq ?_
        refine AW.region ?_
        refine AL.go (OpR.plain rfl (r_move rfl (nb rfl) (by rintro _ ⟨⟩))) ?_
        refine AL.go (OpR.plain rfl (r_assign rfl (nb rfl) (by rintro _ ⟨⟩))) ?_
        refine AL.nil ?_
        refine thenN ?_
        refine AW.exit ?_
        refine inbX (by decide) ?_
        refine thenX ?_
        refine thenX ?_
        refine inbE ?_
        refine thenN ?_
        refine AW.seq ?_
        refine AW.seq ?_
        refine AW.region ?_
        refine AL.go (OpR.plain rfl (r_move rfl (nb rfl) (by rintro _ ⟨⟩))) ?_
        refine AL.go (OpR.plain rfl (r_bin rfl rfl (nb rfl) rfl (run_str_eql _ _))) ?_
        refine AL.nil ?_
        refine thenN ?_
        refine AW.condb rfl (fun h4 => ?_) (fun h4 => ?_)
        · exact absurd (of_decide_eq_true h4) (signs_ne (getD_mem (by omega)))
        · have h4n := h4; try simp only [dtt, dff, bqi, bqf, bni, bnf, nt1, nf1, nt0, nf0, ne_eq, ilt, ile, Int.toNat_natCast, List.length_map] at h4n
          refine AW.skip ?_
          refine thenN ?_
          refine AW.draw ?_
          have hs : qQ.is (l.signs.getD jJ ⟨#[]⟩) = true := by simp_all
          have hR := hC.room hs
          have hfind : l.signs.find? qQ.is = some (l.signs.getD jJ ⟨#[]⟩) := by
            rw [← hI.2, find_step (i := jJ) (by omega), if_pos hs]
          refine DW.go (OpR.plain rfl (r_move rfl (nb rfl) (by rintro _ ⟨⟩))) ?_
          refine DW.go (OpR.plain rfl (r_callFun (opOf_s _) en_62 rfl rfl rfl rfl (.cons (A.le_refl _) .nil) rfl (nb rfl))) ?_
          first | refine DW.go (OpR.plain rfl (r_load ti_27 rfl rfl (by simp only [loaded, mpc, mpn, if_true, ler, tks, tkz, tkn, dps, dpz, cap, nap, apn, lnc, lnn, zad, Nat.reduceAdd, adz]; rfl) (nb rfl))) ?_ | refine DW.go (OpR.plain rfl (r_loadp ti_27 rfl (by simp only [loaded, mpc, mpn, if_true, ler, tks, tkz, tkn, dps, dpz, cap, nap, apn, lnc, lnn, zad, Nat.reduceAdd, adz]; rfl) (nb rfl))) ?_
          refine DW.go (OpR.plain rfl (r_move rfl (nb rfl) (by rintro _ ⟨⟩))) ?_
          refine DW.go (OpR.plain rfl (r_callId (hpart (mM - 1) qQ.step hR.1 hR.2.1 hR.2.2) hent rfl rfl rfl rfl (.cons (A.le_refl _) .nil) rfl (.cons (Eq.trans (b := some (pbox (qQ.take (l.signs.getD jJ ⟨#[]⟩)))) rfl (by rw [take_t hs])) .nil) rfl rfl rfl (nb rfl))) ?_
          refine DW.go (OpR.plain rfl (r_buildSlice un_25 ti_27 rfl rfl rfl rfl rfl (by decide) (by decide) rfl (nb rfl))) ?_
          refine DW.go (OpR.plain rfl (r_callFun (of_s _ [eE, (R (mM - 1) (.parse l.sub) qQ.step).1] (by simp)) en_55 rfl rfl rfl rfl (.cons (A.le_refl _) (.cons (A.le_of_eq (by simp [Ex.rows, Ex.row_eq])) .nil)) rfl (nb rfl))) ?_
          refine DW.go (OpR.plain rfl (r_storeN ti_27 rfl rfl rfl rfl rfl (nb rfl) (by simp only [putAt, tks, tkz, tkn, dps, dpz, cap, nap, apn, lnc, lnn, zad, Nat.reduceAdd, adz]; rfl) (by rintro _ ⟨⟩))) ?_
          refine DW.fin mixed (by kernel_rfl) (by kernel_rfl) ?_
          refine inbN ?_
          refine thenN ?_
          refine ⟨⟨(exOf (opOf (l.signs.getD jJ ⟨#[]⟩)) [eE, (R (mM - 1) (.parse l.sub) qQ.step).1], (R (mM - 1) (.parse l.sub) qQ.step).2, mM - 1), hC.next hfind⟩, by have := hC.lt; simp only; omega, weakens_id (.cons rfl (A.le_of_eq (by first | rfl | (simp [A.ren, C.ren, renOf, lk]; done) | (simp [A.ren, C.ren, renOf, lk]; omega) | omega)) (.cons rfl (A.le_of_eq (by first | rfl | (simp [A.ren, C.ren, renOf, lk]; done) | (simp [A.ren, C.ren, renOf, lk]; omega) | omega)) (.cons rfl (A.le_of_eq (by first | rfl | (simp [A.ren, C.ren, renOf, lk]; done) | (simp [A.ren, C.ren, renOf, lk]; omega) | omega)) (.cons rfl (A.le_of_eq (by first | rfl | (simp [A.ren, C.ren, renOf, lk]; done) | (simp [A.ren, C.ren, renOf, lk]; omega) | omega)) (.cons rfl (A.le_of_eq (by first | rfl | (simp [A.ren, C.ren, renOf, lk]; done) | (simp [A.ren, C.ren, renOf, lk]; omega) | omega)) .nil))))) (.cons rfl (Ob.le_refl _) (.cons rfl (Ob.le_refl _) (.cons rfl (Ob.le_refl _) .nil))) rfl rfl rfl rfl⟩
      · have h3n := h3; try simp only [dtt, dff, bqi, bqf, bni, bnf, nt1, nf1, nt0, nf0, ne_eq, ilt, ile, Int.toNat_natCast, List.length_map] at h3n
        refine AW.skip ?_
        refine inbN ?_
        refine thenN ?_
        refine AW.region ?_
        refine AL.go (OpR.plain rfl (r_add rfl rfl (nb rfl) (by first | omega | (simp only [dtt, dff, bqi, bqf, bni, nt1, nf1] at *; omega)) (by first | omega | (simp only [dtt, dff, bqi, bqf, bni, nt1, nf1] at *; omega)))) ?_
        refine AL.go (OpR.plain rfl (r_move rfl (nb rfl) (by rintro _ ⟨⟩))) ?_
        refine AL.nil ?_
        refine thenN ?_
        have hsF : qQ.is (l.signs.getD jJ ⟨#[]⟩) = false := by simp_all
        refine ⟨⟨jJ + 1, by exact ⟨by omega, by rw [← hI.2, find_step (i := jJ) (by omega), if_neg (by rw [hsF]; decide)]⟩⟩, by simp only; omega, weakens_id (.cons rfl (A.le_of_eq (by first | rfl | (simp [A.ren, C.ren, renOf, lk]; done) | (simp [A.ren, C.ren, renOf, lk]; omega) | omega)) (.cons rfl (A.le_of_eq (by first | rfl | (simp [A.ren, C.ren, renOf, lk]; done) | (simp [A.ren, C.ren, renOf, lk]; omega) | omega)) (.cons rfl (A.le_of_eq (by first | rfl | (simp [A.ren, C.ren, renOf, lk]; done) | (simp [A.ren, C.ren, renOf, lk]; omega) | omega)) (.cons rfl (A.le_of_eq (by first | rfl | (simp [A.ren, C.ren, renOf, lk]; done) | (simp [A.ren, C.ren, renOf, lk]; omega) | omega)) (.cons rfl (A.le_of_eq (by first | rfl | (simp [A.ren, C.ren, renOf, lk]; done) | (simp [A.ren, C.ren, renOf, lk]; omega) | omega)) (.cons rfl (A.le_of_eq (by first | rfl | (simp [A.ren, C.ren, renOf, lk]; done) | (simp [A.ren, C.ren, renOf, lk]; omega) | omega)) (.cons rfl (A.le_of_eq (by first | rfl | (simp [A.ren, C.ren, renOf, lk]; done) | (simp [A.ren, C.ren, renOf, lk]; omega) | omega)) (.cons rfl (A.le_of_eq (by first | rfl | (simp [A.ren, C.ren, renOf, lk]; done) | (simp [A.ren, C.ren, renOf, lk]; omega) | omega)) (.cons rfl (A.le_of_eq (by first | rfl | (simp [A.ren, C.ren, renOf, lk]; done) | (simp [A.ren, C.ren, renOf, lk]; omega) | omega)) .nil))))))))) (.cons rfl (Ob.le_of_eq (congrArg pbox (take_f hsF))) (.cons rfl (Ob.le_refl _) (.cons rfl (Ob.le_refl _) .nil))) rfl rfl rfl rfl⟩
    · have h2n := h2; try simp only [dtt, dff, bqi, bqf, bni, bnf, nt1, nf1, nt0, nf0, ne_eq, ilt, ile, Int.toNat_natCast, List.length_map] at h2n
      refine AW.exit ?_
      refine thenX ?_
      refine thenX ?_
      refine inbE ?_
      refine thenN ?_
      refine AW.seq ?_
      refine AW.seq ?_
      refine AW.region ?_
      refine AL.go (OpR.plain rfl (r_move rfl (nb rfl) (by rintro _ ⟨⟩))) ?_
      refine AL.go (OpR.plain rfl (r_bin rfl rfl (nb rfl) rfl (run_str_eql _ _))) ?_
      refine AL.nil ?_
      refine thenN ?_
      refine AW.condb rfl (fun h5 => ?_) (fun h5 => ?_)
      · have h5n := h5; try simp only [dtt, dff, bqi, bqf, bni, bnf, nt1, nf1, nt0, nf0, ne_eq, ilt, ile, Int.toNat_natCast, List.length_map] at h5n
        refine AW.seq ?_
        refine AW.region ?_
        first | refine AL.go (OpR.plain rfl (r_load ti_27 rfl rfl (by simp only [loaded, mpc, mpn, if_true, ler, tks, tkz, tkn, dps, dpz, cap, nap, apn, lnc, lnn, zad, Nat.reduceAdd, adz]; rfl) (nb rfl))) ?_ | refine AL.go (OpR.plain rfl (r_loadp ti_27 rfl (by simp only [loaded, mpc, mpn, if_true, ler, tks, tkz, tkn, dps, dpz, cap, nap, apn, lnc, lnn, zad, Nat.reduceAdd, adz]; rfl) (nb rfl))) ?_
        refine AL.go (OpR.plain rfl (r_storeN ti_27 rfl rfl rfl rfl rfl (nb rfl) (by simp only [putAt, tks, tkz, tkn, dps, dpz, cap, nap, apn, lnc, lnn, zad, Nat.reduceAdd, adz]; rfl) (by rintro _ ⟨⟩))) ?_
        refine AL.nil ?_
        refine thenN ?_
        refine AW.ret ?_
        refine thenR ?_
        refine inbR ?_
        refine thenR ?_
        refine inbR ?_
        refine thenR ?_
        refine fin_id (.inr rfl) (ends_of rfl (.cell ti_27 rfl rfl (by simp only [loaded, if_true, ler, tks, tkz, tkn, dps, dpz, cap, nap, apn, lnc, lnn, zad, Nat.reduceAdd, adz]; rfl) .nil)) ?_ (.cons rfl (Ob.le_of_eq (by first | rw [hC.err (by assumption)] | (rw [hC.none (by rw [← hI.2, List.drop_eq_nil_of_le (by omega)]; rfl)]))) .nil) rfl rfl rfl rfl
        simp only [retA]
        first | (rw [hC.err (by assumption)]; exact A.le_refl _) | (rw [hC.none (by rw [← hI.2, List.drop_eq_nil_of_le (by omega)]; rfl)]; exact A.le_refl _)
      · exact absurd h5 (by simp)
  · have h1n := h1; try simp only [dtt, dff, bqi, bqf, bni, bnf, nt1, nf1, nt0, nf0, ne_eq, ilt, ile, Int.toNat_natCast, List.length_map] at h1n
    refine AW.exit ?_
    refine thenX ?_
    refine thenX ?_
    refine inbE ?_
    refine thenN ?_
    refine AW.seq ?_
    refine AW.region ?_
    first | refine AL.go (OpR.plain rfl (r_load ti_27 rfl rfl (by simp only [loaded, mpc, mpn, if_true, ler, tks, tkz, tkn, dps, dpz, cap, nap, apn, lnc, lnn, zad, Nat.reduceAdd, adz]; rfl) (nb rfl))) ?_ | refine AL.go (OpR.plain rfl (r_loadp ti_27 rfl (by simp only [loaded, mpc, mpn, if_true, ler, tks, tkz, tkn, dps, dpz, cap, nap, apn, lnc, lnn, zad, Nat.reduceAdd, adz]; rfl) (nb rfl))) ?_
    refine AL.go (OpR.plain rfl (r_storeN ti_27 rfl rfl rfl rfl rfl (nb rfl) (by simp only [putAt, tks, tkz, tkn, dps, dpz, cap, nap, apn, lnc, lnn, zad, Nat.reduceAdd, adz]; rfl) (by rintro _ ⟨⟩))) ?_
    refine AL.nil ?_
    refine thenN ?_
    refine AW.ret ?_
    refine fin_id (.inr rfl) (ends_of rfl (.cell ti_27 rfl rfl (by simp only [loaded, if_true, ler, tks, tkz, tkn, dps, dpz, cap, nap, apn, lnc, lnn, zad, Nat.reduceAdd, adz]; rfl) .nil)) ?_ (.cons rfl (Ob.le_of_eq (by first | rw [hC.err (by assumption)] | (rw [hC.none (by rw [← hI.2, List.drop_eq_nil_of_le (by omega)]; rfl)]))) .nil) rfl rfl rfl rfl
    simp only [retA]
    first | (rw [hC.err (by assumption)]; exact A.le_refl _) | (rw [hC.none (by rw [← hI.2, List.drop_eq_nil_of_le (by omega)]; rfl)]; exact A.le_refl _)

end Go.Par
