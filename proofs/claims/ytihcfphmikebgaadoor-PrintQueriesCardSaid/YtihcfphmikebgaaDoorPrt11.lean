import Derived.Test.YtihcfphmikebgaaDoorPrt10
namespace Go.Par
open Go Go.Am Go.Proofs Go.RowKit
set_option linter.unusedVariables false
set_option linter.unusedSimpArgs false

theorem Pst.Ok.step {p : Pst} (h : p.Ok) (hlt : p.at_ < p.l.length) : p.step.Ok := ⟨hlt, h.len, h.deep, h.text⟩
theorem Pst.Ok.fail {p : Pst} (h : p.Ok) (e : Int) : (p.fail e).Ok := by
  unfold Pst.fail
  split
  · exact ⟨h.at_, h.len, h.deep, h.text⟩
  · exact h
theorem Pst.Ok.take {p : Pst} (h : p.Ok) (s : ByteArray) : (p.take s).Ok := by
  unfold Pst.take
  split
  · rename_i hs; exact h.step (Pst.is_lt hs)
  · exact h
theorem Pst.Ok.must {p : Pst} (h : p.Ok) (s : ByteArray) : (p.must s).Ok := by
  unfold Pst.must
  split
  · rename_i hs; exact h.step (Pst.is_lt hs)
  · exact h.fail 1
theorem Pst.Ok.name {p : Pst} (h : p.Ok) : p.name.2.Ok := by
  unfold Pst.name
  split
  · rename_i hs; exact h.step (Pst.tok_lt (by rw [hs]; decide))
  · exact h.fail 1
/-- A column's name. -/
def Pst.col (p : Pst) : Ex × Pst :=
  if p.name.2.is ⟨#[46]⟩ then (exCol p.name.1 (p.name.2.step).name.1, (p.name.2.step).name.2) else (exCol bs0 p.name.1, p.name.2)

theorem en_45 : enters Tryd.prog 45 = true := by kernel_rfl
theorem en_59 : enters Tryd.prog 59 = true := by kernel_rfl
theorem en_60 : enters Tryd.prog 60 = true := by kernel_rfl
theorem pl_52 : placesOf Tryd.prog 52 = some ([(0, 1), (1, 1), (2, 1), (3, 1)], Value.agg (List.toArray [Value.slice none 0 0, Value.int IntKind.i64 0, Value.int IntKind.i64 0, Value.int IntKind.i64 0])) := by kernel_rfl
theorem zc_52 : plainCells (Value.agg (List.toArray [Value.slice none 0 0, Value.int IntKind.i64 0, Value.int IntKind.i64 0, Value.int IntKind.i64 0])) = [.d (.v (Value.slice none 0 0)), .d (.v (Value.int IntKind.i64 0)), .d (.v (Value.int IntKind.i64 0)), .d (.v (Value.int IntKind.i64 0))] := rfl

theorem begin_s (s : ByteArray) (hs : s.size ≤ 10000000000000) : Am.Spec Tryd.prog 22 [A.val (.string s)] [] (A.c (.ref 0 0)) [(0, pbox ⟨(allM s).1, 0, 0, (allM s).2⟩)] := by
  refine spec_ofN (n := 14) Tryd.func22 rfl rfl (nb rfl) ?_
  show AW _ _ (⟨[(0, A.val (.string s))], [], []⟩ : St) _
  refine AW.seq ?_
  refine AW.region ?_
  refine AL.go (OpR.plain rfl (r_assign rfl (nb rfl) (by rintro _ ⟨⟩; rfl))) ?_
  refine AL.nil ?_
  refine thenN ?_
  refine AW.seq ?_
  refine AW.region ?_
  refine AL.go (OpR.plain rfl (r_move rfl (nb rfl) (by rintro _ ⟨⟩))) ?_
  refine AL.go (OpR.plain rfl (r_callFun (all_s s hs) en_45 rfl rfl rfl rfl (.cons (A.le_refl _) .nil) rfl (nb rfl))) ?_
  refine AL.go (OpR.plain rfl (r_move rfl (nb rfl) (by rintro _ ⟨⟩))) ?_
  refine AL.go (OpR.plain rfl (r_extract rfl rfl (nb rfl))) ?_
  refine AL.go (OpR.plain rfl (r_extract rfl rfl (nb rfl))) ?_
  refine AL.go (OpR.plain rfl (r_assign rfl (nb rfl) (by rintro _ ⟨⟩))) ?_
  refine AL.go (OpR.plain rfl (r_assign rfl (nb rfl) (by rintro _ ⟨⟩))) ?_
  refine AL.nil ?_
  refine thenN ?_
  refine AW.seq ?_
  refine AW.region ?_
  refine AL.go (OpR.plain rfl (r_move rfl (nb rfl) (by rintro _ ⟨⟩))) ?_
  refine AL.go (OpR.plain rfl (r_move rfl (nb rfl) (by rintro _ ⟨⟩))) ?_
  refine AL.go (OpR.plain rfl (r_build pl_52 rfl zc_52 rfl rfl (by simp only [fillC, putAt, gez, ges, if_true, and_self, Nat.reduceLeDiff, true_and, tks, tkz, tkn, dps, dpz, cap, nap, apn, lnc, lnn, zad, Nat.reduceAdd, adz]; rfl) (nb rfl))) ?_
  refine AL.go (OpR.plain rfl (r_box 0 rfl rfl rfl (nb rfl) (by rintro _ ⟨⟩))) ?_
  refine AL.go (OpR.plain rfl (r_assign rfl (nb rfl) (by rintro _ ⟨⟩))) ?_
  refine AL.nil ?_
  refine thenN ?_
  refine AW.ret ?_
  refine fin_id (.inr rfl) (ends_of rfl (.tmp rfl .nil)) ?_ (.cons rfl (Ob.le_refl _) .nil) rfl rfl rfl rfl
  simp only [retA]
  exact A.le_refl _


theorem pcol_s (p : Pst) (h0 : p.Ok) : Am.Spec Tryd.prog 43 [A.c (.ref 0 0)] [(0, pbox p)] (exA p.col.1) [(0, pbox (p.col.2))] := by
  refine spec_ofN (n := 15) Tryd.func43 rfl rfl (nb rfl) ?_
  show AW _ _ (⟨[(0, A.c (.ref 0 0))], [(0, pbox p)], []⟩ : St) _
  have h1o := Pst.Ok.name h0
  have h2o := Pst.Ok.take h1o ⟨#[46]⟩
  refine AW.seq ?_
  refine AW.region ?_
  refine AL.go (OpR.plain rfl (r_alloc 101 ti_27 zc_27 rfl rfl (nb rfl))) ?_
  refine AL.nil ?_
  refine thenN ?_
  refine AW.seq ?_
  refine AW.region ?_
  refine AL.go (OpR.plain rfl (r_move rfl (nb rfl) (by rintro _ ⟨⟩))) ?_
  refine AL.go (OpR.plain rfl (r_callId (name_s p h0) en_59 rfl rfl rfl rfl (.cons (A.le_refl _) .nil) rfl (.cons rfl .nil) rfl rfl rfl (nb rfl))) ?_
  refine AL.go (OpR.plain rfl (r_assign rfl (nb rfl) (by rintro _ ⟨⟩))) ?_
  refine AL.nil ?_
  refine thenN ?_
  refine AW.seq ?_
  refine AW.seq ?_
  refine AW.region ?_
  refine AL.go (OpR.plain rfl (r_move rfl (nb rfl) (by rintro _ ⟨⟩))) ?_
  refine AL.go (OpR.plain rfl (r_callId (take_s p.name.2 h1o ⟨#[46]⟩) en_42 rfl rfl rfl rfl (.cons (A.le_refl _) (.cons (A.le_refl _) .nil)) rfl (.cons rfl .nil) rfl rfl rfl (nb rfl))) ?_
  refine AL.go (OpR.plain rfl (r_not rfl (nb rfl))) ?_
  refine AL.nil ?_
  refine thenN ?_
  refine AW.condb rfl (fun h1 => ?_) (fun h1 => ?_)
  · have h1n := h1; try simp only [dtt, dff, bqi, bqf, bni, bnf, nt1, nf1, nt0, nf0, ne_eq, ilt, ile] at h1n
    refine AW.seq ?_
    refine AW.region ?_
    refine AL.go (OpR.plain rfl (r_move rfl (nb rfl) (by rintro _ ⟨⟩))) ?_
    refine AL.go (OpR.plain rfl (r_callFun (col_s _ _) en_60 rfl rfl rfl rfl (.cons (A.le_refl _) (.cons (A.le_refl _) .nil)) rfl (nb rfl))) ?_
    refine AL.go (OpR.plain rfl (r_storeN ti_27 rfl rfl rfl rfl rfl (nb rfl) (by simp only [putAt, tks, tkz, tkn, dps, dpz, cap, nap, apn, lnc, lnn, zad, Nat.reduceAdd, adz]; rfl) (by rintro _ ⟨⟩))) ?_
    refine AL.nil ?_
    refine thenN ?_
    refine AW.ret ?_
    refine thenR ?_
    refine fin_id (.inr rfl) (ends_of rfl (.cell ti_27 rfl rfl (by simp only [loaded, if_true, ler, tks, tkz, tkn, dps, dpz, cap, nap, apn, lnc, lnn, zad, Nat.reduceAdd, adz]; rfl) .nil)) ?_ (.cons rfl (Ob.le_of_eq (by simp_all [Pst.col, Pst.take])) .nil) rfl rfl rfl rfl
    simp only [retA]
    refine A.le_of_eq ?_
    simp_all [Pst.col, Pst.take]
  · have h1n := h1; try simp only [dtt, dff, bqi, bqf, bni, bnf, nt1, nf1, nt0, nf0, ne_eq, ilt, ile] at h1n
    refine AW.skip ?_
    refine thenN ?_
    refine AW.seq ?_
    refine AW.region ?_
    refine AL.go (OpR.plain rfl (r_move rfl (nb rfl) (by rintro _ ⟨⟩))) ?_
    refine AL.go (OpR.plain rfl (r_move rfl (nb rfl) (by rintro _ ⟨⟩))) ?_
    refine AL.go (OpR.plain rfl (r_callId (name_s (p.name.2.take ⟨#[46]⟩) h2o) en_59 rfl rfl rfl rfl (.cons (A.le_refl _) .nil) rfl (.cons rfl .nil) rfl rfl rfl (nb rfl))) ?_
    refine AL.go (OpR.plain rfl (r_callFun (col_s _ _) en_60 rfl rfl rfl rfl (.cons (A.le_refl _) (.cons (A.le_refl _) .nil)) rfl (nb rfl))) ?_
    refine AL.go (OpR.plain rfl (r_storeN ti_27 rfl rfl rfl rfl rfl (nb rfl) (by simp only [putAt, tks, tkz, tkn, dps, dpz, cap, nap, apn, lnc, lnn, zad, Nat.reduceAdd, adz]; rfl) (by rintro _ ⟨⟩))) ?_
    refine AL.nil ?_
    refine thenN ?_
    refine AW.ret ?_
    refine fin_id (.inr rfl) (ends_of rfl (.cell ti_27 rfl rfl (by simp only [loaded, if_true, ler, tks, tkz, tkn, dps, dpz, cap, nap, apn, lnc, lnn, zad, Nat.reduceAdd, adz]; rfl) .nil)) ?_ (.cons rfl (Ob.le_of_eq (by simp_all [Pst.col, Pst.take])) .nil) rfl rfl rfl rfl
    simp only [retA]
    refine A.le_of_eq ?_
    simp_all [Pst.col, Pst.take]


end Go.Par
