import Derived.Test.YtihcfphmikebgaaDoorPrt25
import Derived.Test.YtihcfphmikebgaaDoorPrt38
namespace Go.Am
open Go Go.Proofs Go.RowKit
theorem AL.weaken {G : Gm} {ops : Array Oper} {l : List Oper} {s s' : St} {Q : Exit → St → Prop} (hw : Weakens G s s') (h : AL G ops l s' Q) : AL G ops l s Q := fun K hK a w hs => h K hK a w (hs.weakens hK hw)
section
variable {G : Gm} {sl : List (Nat × A)} {mem : List (Nat × Ob)} {d : Nat}
/-- A slice that is nil, asked whether it is. -/
theorem r_sliceNilT {t yt e ty : TypeId} {x : Operand} {pos : _} {af : _} {gd : _} (ht : G.P.underlying t = some (.slice e)) (hx : ev sl x = some (A.val (.slice none 0 0))) (hone : oneAll [x] = true) (hn : d < G.n) :
    OpR G ⟨some d, .binOp .eql t x (.const (.slice none 0 0)) yt, ty, pos, af, gd⟩ sl mem ⟨rd sl [x], [], [(d, A.bool true)], []⟩ :=
  .pure [x] rfl hn (by simp) fun K ρ s a w hK hs hrs _ => by
    have hr := rep_of hs hrs (by simp) (oneAll_spec hone (by simp)) hx
    generalize hv : a.eval x = v at hr
    obtain rfl : v = .slice none 0 0 := hr.val
    refine ⟨.bool true, ?_, .c (.d (.v rfl))⟩
    have e1 : binOp .eql t (.slice none 0 0) (.slice none 0 0) = (do pure (.bool (← Op.equal t (.slice none 0 0) (.slice none 0 0)))) := rfl
    have e2 : eqGuard .eql t x (.const (.slice none 0 0)) (.slice none 0 0) (.slice none 0 0) = pure () := rfl
    have e3 : (Op.equal t (.slice none 0 0) (.slice none 0 0)).run G.P w = .ok true w := by
      unfold Op.equal
      obtain ⟨n', hn'⟩ : ∃ n, Op.maxDepth = n + 1 := ⟨9999, rfl⟩
      rw [hn']
      simp only [Op.equalIn, Sem.run_bind, run_underlying ht, Result.andThen_ok, Sem.run_pure]
      rfl
    have e4 : a.eval (.const (.slice none 0 0)) = .slice none 0 0 := rfl
    simp only [execOp, hv, e4, e1, e2, Sem.run_bind, Sem.run_pure, Result.andThen_ok, e3]
end
end Go.Am

namespace Go.Par
open Go Go.Am Go.Proofs Go.RowKit
set_option linter.unusedVariables false
set_option linter.unusedSimpArgs false

/-! What parse.Query computes -/
abbrev bSel : ByteArray := ⟨#[115, 101, 108, 101, 99, 116]⟩
abbrev bFrom : ByteArray := ⟨#[102, 114, 111, 109]⟩
abbrev bWhere : ByteArray := ⟨#[119, 104, 101, 114, 101]⟩
abbrev bGroup : ByteArray := ⟨#[103, 114, 111, 117, 112]⟩
abbrev bBy : ByteArray := ⟨#[98, 121]⟩
abbrev bAs : ByteArray := ⟨#[97, 115]⟩
abbrev bOn : ByteArray := ⟨#[111, 110]⟩
abbrev bJoin : ByteArray := ⟨#[106, 111, 105, 110]⟩
abbrev bCount : ByteArray := ⟨#[99, 111, 117, 110, 116]⟩
abbrev bSum : ByteArray := ⟨#[115, 117, 109]⟩
abbrev bMin : ByteArray := ⟨#[109, 105, 110]⟩
abbrev bMax : ByteArray := ⟨#[109, 97, 120]⟩
abbrev bStar : ByteArray := ⟨#[42]⟩
abbrev bComma : ByteArray := ⟨#[44]⟩
theorem mz_le {p : Pst} (h : Good p) : mz p ≤ 20000 := by
  have := h.ok.len
  unfold mz
  split <;> omega
/-- An expression, at any place. -/
def orM (p : Pst) : Ex × Pst := R 20007 (.parse .or) p
theorem orM_keeps {p : Pst} (h : Good p) : Keeps p (orM p).2 := (R_keeps 20007 (.parse .or) p h).1
theorem or_q (p : Pst) (h : Good p) : Am.Spec Tryd.prog 23 [A.c (.ref 0 0)] [(0, pbox p)] (exA (orM p).1) [(0, pbox (orM p).2)] := (allOk 20007 20007 (Nat.le_refl _)).or p h (by have := mz_le h; simp only [Lv.rank]; omega)
theorem Good.take {p : Pst} (h : Good p) (w : ByteArray) : Good (p.take w) := (keeps_take h w).good
theorem Good.must {p : Pst} (h : Good p) (w : ByteArray) : Good (p.must w) := (keeps_must h w).1.good
theorem Good.name {p : Pst} (h : Good p) : Good p.name.2 := (keeps_name h).1.good
theorem Good.fail4 {p : Pst} (h : Good p) : Good (p.fail 4) := (keeps_fail h 4 (by decide)).1.good
theorem Good.orM {p : Pst} (h : Good p) : Good (orM p).2 := (orM_keeps h).good
def aggM (op : Int) (q : Pst) : Ex × Pst := (exOf op [(orM q).1], (orM q).2.must bClose)
/-- Behind 'count'. -/
def countM (q : Pst) : Ex × Pst := if q.is bStar = true then (exOf 17 [], (q.take bStar).must bClose) else aggM 18 (q.take bStar)
def itemM (p : Pst) : Ex × Pst :=
  if p.is bCount = true then countM ((p.take bCount).must bOpen)
  else if (p.take bCount).is bSum = true then aggM 19 (((p.take bCount).take bSum).must bOpen)
  else if ((p.take bCount).take bSum).is bMin = true then aggM 20 ((((p.take bCount).take bSum).take bMin).must bOpen)
  else if (((p.take bCount).take bSum).take bMin).is bMax = true then aggM 21 (((((p.take bCount).take bSum).take bMin).take bMax).must bOpen)
  else orM ((((p.take bCount).take bSum).take bMin).take bMax)
theorem aggM_keeps {op : Int} {p : Pst} (h : Good p) : Keeps p (aggM op p).2 := (orM_keeps h).trans (keeps_must h.orM _).1
theorem countM_keeps {p : Pst} (h : Good p) : Keeps p (countM p).2 := by
  unfold countM
  split
  · exact (keeps_take h _).trans (keeps_must (h.take _) _).1
  · exact (keeps_take h _).trans (aggM_keeps (h.take _))
theorem itemM_keeps {p : Pst} (h : Good p) : Keeps p (itemM p).2 := by
  have k1 := keeps_take h bCount
  have k2 := k1.trans (keeps_take k1.good bSum)
  have k3 := k2.trans (keeps_take k2.good bMin)
  have k4 := k3.trans (keeps_take k3.good bMax)
  unfold itemM
  split
  · exact k1.trans ((keeps_must k1.good _).1.trans (countM_keeps (k1.good.must _)))
  · split
    · exact k2.trans ((keeps_must k2.good _).1.trans (aggM_keeps (k2.good.must _)))
    · split
      · exact k3.trans ((keeps_must k3.good _).1.trans (aggM_keeps (k3.good.must _)))
      · split
        · exact k4.trans ((keeps_must k4.good _).1.trans (aggM_keeps (k4.good.must _)))
        · exact k4.trans (orM_keeps k4.good)
/-- A table's name, and another one. -/
def asM (q : Pst) : ByteArray × Pst := if q.is bAs = true ∨ (q.take bAs).tok.kind = 1 then (q.take bAs).name else (bs0, q.take bAs)
def tableM (join : Int) (p : Pst) : Fr × Pst := (⟨join, p.name.1, (asM p.name.2).1, Ex.zero⟩, (asM p.name.2).2)
theorem asM_keeps {p : Pst} (h : Good p) : Keeps p (asM p).2 := by
  unfold asM
  split
  · exact (keeps_take h _).trans (keeps_name (h.take _)).1
  · exact keeps_take h _
theorem tableM_keeps {join : Int} {p : Pst} (h : Good p) : Keeps p (tableM join p).2 := (keeps_name h).1.trans (asM_keeps h.name)

theorem pl_57 : placesOf Tryd.prog 57 = some ([(0, 1), (1, 1), (2, 1), (3, 9)], Value.agg (List.toArray [Value.int IntKind.i64 0, Value.string { data := #[] }, Value.string { data := #[] }, Value.int IntKind.i64 0, Value.string { data := #[] }, Value.string { data := #[] }, Value.int IntKind.i64 0, Value.int IntKind.i64 0, Value.int IntKind.i64 0, Value.int IntKind.i64 0, Value.string { data := #[] }, Value.slice none 0 0])) := by kernel_rfl

theorem clone0_s  : Am.Spec Tryd.prog 68 [A.val (.slice none 0 0)] [] (A.val (.slice none 0 0)) [] := by
  refine spec_ofN (n := 8) Tryd.func68 rfl rfl (nb rfl) ?_
  show AW _ _ (⟨[(0, A.val (.slice none 0 0))], [], []⟩ : St) _
  refine AW.seq ?_
  refine AW.region ?_
  refine AL.go (OpR.plain rfl (r_assign rfl (nb rfl) (by rintro _ ⟨⟩; rfl))) ?_
  refine AL.nil ?_
  refine thenN ?_
  refine AW.seq ?_
  refine AW.seq ?_
  refine AW.region ?_
  refine AL.go (OpR.plain rfl (r_move rfl (nb rfl) (by rintro _ ⟨⟩))) ?_
  refine AL.go (OpR.plain rfl (r_sliceNilT un_25 rfl rfl (nb rfl))) ?_
  refine AL.nil ?_
  refine thenN ?_
  refine AW.condT rfl (rfl) ?_
  refine AW.seq ?_
  refine AW.region ?_
  refine AL.go (OpR.plain rfl (r_assign rfl (nb rfl) (by rintro _ ⟨⟩; rfl))) ?_
  refine AL.nil ?_
  refine thenN ?_
  refine AW.ret ?_
  refine thenR ?_
  refine fin_id (.inr rfl) (ends_of rfl (.tmp rfl .nil)) ?_ .nil rfl rfl rfl rfl
  simp only [retA]
  exact A.le_refl _

theorem of0_s (op : Int) : Am.Spec Tryd.prog 55 [A.i64 op, A.val (.slice none 0 0)] [] (exA (exOf op [])) [] := by
  refine spec_ofN (n := 9) Tryd.func55 rfl rfl (nb rfl) ?_
  show AW _ _ (⟨[(0, A.i64 op), (1, A.val (.slice none 0 0))], [], []⟩ : St) _
  refine AW.seq ?_
  refine AW.region ?_
  refine AL.go (OpR.plain rfl (r_alloc 101 ti_27 zc_27 rfl rfl (nb rfl))) ?_
  refine AL.nil ?_
  refine thenN ?_
  refine AW.seq ?_
  refine AW.region ?_
  refine AL.go (OpR.plain rfl (r_move rfl (nb rfl) (by rintro _ ⟨⟩))) ?_
  refine AL.go (OpR.plain rfl (r_move rfl (nb rfl) (by rintro _ ⟨⟩))) ?_
  refine AL.go (OpR.plain rfl (r_callFun (clone0_s) en_68 rfl rfl rfl rfl (.cons (A.le_refl _) .nil) rfl (nb rfl))) ?_
  refine AL.go (OpR.plain rfl (r_build pl_27 rfl zc_27 rfl rfl (by simp only [fillC, putAt, gez, ges, if_true, and_self, Nat.reduceLeDiff, true_and, tks, tkz, tkn, dps, dpz, cap, nap, apn, lnc, lnn, zad, Nat.reduceAdd, adz]; rfl) (nb rfl))) ?_
  refine AL.go (OpR.plain rfl (r_storeN ti_27 rfl rfl rfl rfl rfl (nb rfl) (by simp only [putAt, tks, tkz, tkn, dps, dpz, cap, nap, apn, lnc, lnn, zad, Nat.reduceAdd, adz]; rfl) (by rintro _ ⟨⟩))) ?_
  refine AL.nil ?_
  refine thenN ?_
  refine AW.ret ?_
  refine fin_id (.inr rfl) (ends_of rfl (.cell ti_27 rfl rfl (by simp only [loaded, if_true, ler, tks, tkz, tkn, dps, dpz, cap, nap, apn, lnc, lnn, zad, Nat.reduceAdd, adz]; rfl) .nil)) ?_ .nil rfl rfl rfl rfl
  simp only [retA]
  exact A.le_agg (.cons (by first | exact C.le_refl _ | exact C.le_nil) (.cons (by first | exact C.le_refl _ | exact C.le_nil) (.cons (by first | exact C.le_refl _ | exact C.le_nil) (.cons (by first | exact C.le_refl _ | exact C.le_nil) (.cons (by first | exact C.le_refl _ | exact C.le_nil) (.cons (by first | exact C.le_refl _ | exact C.le_nil) (.cons (by first | exact C.le_refl _ | exact C.le_nil) (.cons (by first | exact C.le_refl _ | exact C.le_nil) (.cons (by first | exact C.le_refl _ | exact C.le_nil) .nil)))))))))

/-- tree.Of, with one part. -/
theorem of1_s (op : Int) (x : Ex) : Am.Spec Tryd.prog 55 [A.i64 op, A.c (.d (.sl true [[.v (.int .i64 x.op), .v (.string x.tab), .v (.string x.name), .v (.int .i64 x.t), .v (.int .i64 x.c), .v (.int .i64 x.val.kind), .v (.int .i64 x.val.i), .v (.string x.val.s), .sl false (Ex.rows x.l)]]))] [] (exA (exOf op [x])) [] := by
  have h := of_s op [x] (by simp)
  simpa [Ex.rows, Ex.row_eq] using h

set_option maxHeartbeats 2000000 in
theorem item_s (p : Pst) (hg : Good p) : Am.Spec Tryd.prog 40 [A.c (.ref 0 0)] [(0, pbox p)] (exA (itemM p).1) [(0, pbox (itemM p).2)] := by
  refine spec_ofN (n := 38) Tryd.func40 rfl rfl (nb rfl) ?_
  show AW _ _ (⟨[(0, A.c (.ref 0 0))], [(0, pbox p)], []⟩ : St) _
  refine AW.seq ?_
  refine AW.region ?_
  refine AL.go (OpR.plain rfl (r_alloc 101 ti_27 zc_27 rfl rfl (nb rfl))) ?_
  refine AL.nil ?_
  refine thenN ?_
  refine AW.seq ?_
  refine AW.region ?_
  refine AL.go (OpR.plain rfl (r_assign rfl (nb rfl) (by rintro _ ⟨⟩; rfl))) ?_
  refine AL.nil ?_
  refine thenN ?_
  refine AW.seq ?_
  refine AW.block ?_
  refine AW.seq ?_
  refine AW.region ?_
  refine AL.go (OpR.plain rfl (r_move rfl (nb rfl) (by rintro _ ⟨⟩))) ?_
  refine AL.go (OpR.plain rfl (r_callId (take_s _ (Good.ok (by repeat' (first | assumption | apply Good.take | apply Good.must | apply Good.name | apply Good.fail4 | apply Good.orM))) _) en_42 rfl rfl rfl rfl (.cons (A.le_refl _) (.cons (A.le_refl _) .nil)) rfl (.cons rfl .nil) rfl rfl rfl (nb rfl))) ?_
  refine AL.go (OpR.plain rfl (r_assign rfl (nb rfl) (by rintro _ ⟨⟩))) ?_
  refine AL.nil ?_
  refine thenN ?_
  refine AW.condb rfl (fun h1 => ?_) (fun h1 => ?_)
  · have h1n := h1; try simp only [dtt, dff, bqi, bqf, bni, bnf, nt1, nf1, nt0, nf0, ne_eq, ilt, ile] at h1n
    refine AW.region ?_
    refine AL.go (OpR.plain rfl (r_assign rfl (nb rfl) (by rintro _ ⟨⟩; rfl))) ?_
    refine AL.nil ?_
    refine inbN ?_
    refine thenN ?_
    refine AW.seq ?_
    refine AW.region ?_
    refine AL.go (OpR.plain rfl (r_move rfl (nb rfl) (by rintro _ ⟨⟩))) ?_
    refine AL.go (OpR.plain rfl (r_callId (must_s _ (Good.ok (by repeat' (first | assumption | apply Good.take | apply Good.must | apply Good.name | apply Good.fail4 | apply Good.orM))) _) en_38 rfl rfl rfl rfl (.cons (A.le_refl _) (.cons (A.le_refl _) .nil)) rfl (.cons rfl .nil) rfl rfl rfl (nb rfl))) ?_
    refine AL.nil ?_
    refine thenN ?_
    refine AW.seq ?_
    refine AW.seq ?_
    refine AW.region ?_
    refine AL.go (OpR.plain rfl (r_move rfl (nb rfl) (by rintro _ ⟨⟩))) ?_
    refine AL.go (OpR.plain rfl (r_bin rfl rfl (nb rfl) rfl (run_int_eql _ _ _))) ?_
    refine AL.go (OpR.plain rfl (r_move rfl (nb rfl) (by rintro _ ⟨⟩))) ?_
    refine AL.ifb (t := 23) rfl (fun h2 => ?_) (fun h2 => ?_)
    · have h2n := h2; try simp only [dtt, dff, bqi, bqf, bni, bnf, nt1, nf1, nt0, nf0, ne_eq, ilt, ile] at h2n
      refine AL.go (OpR.onb rfl rfl (nb rfl) rfl (h2) (r_move rfl (nb rfl) (by rintro _ ⟨⟩))) ?_
      refine AL.go (OpR.onb rfl rfl (nb rfl) rfl (h2) (r_callId (take_s _ (Good.ok (by repeat' (first | assumption | apply Good.take | apply Good.must | apply Good.name | apply Good.fail4 | apply Good.orM))) _) en_42 rfl rfl rfl rfl (.cons (A.le_refl _) (.cons (A.le_refl _) .nil)) rfl (.cons rfl .nil) rfl rfl rfl (nb rfl))) ?_
      refine AL.go (OpR.plain rfl (r_pickTb rfl (h2) rfl (nb rfl) (by rintro _ ⟨⟩))) ?_
      refine AL.nil ?_
      refine thenN ?_
      refine AW.condb rfl (fun h3 => ?_) (fun h3 => ?_)
      · have h3n := h3; try simp only [dtt, dff, bqi, bqf, bni, bnf, nt1, nf1, nt0, nf0, ne_eq, ilt, ile] at h3n
        refine AW.seq ?_
        refine AW.region ?_
        refine AL.go (OpR.plain rfl (r_move rfl (nb rfl) (by rintro _ ⟨⟩))) ?_
        refine AL.go (OpR.plain rfl (r_callId (must_s _ (Good.ok (by repeat' (first | assumption | apply Good.take | apply Good.must | apply Good.name | apply Good.fail4 | apply Good.orM))) _) en_38 rfl rfl rfl rfl (.cons (A.le_refl _) (.cons (A.le_refl _) .nil)) rfl (.cons rfl .nil) rfl rfl rfl (nb rfl))) ?_
        refine AL.nil ?_
        refine thenN ?_
        refine AW.seq ?_
        refine AW.region ?_
        refine AL.go (OpR.plain rfl (r_callFun (of0_s _) en_55 rfl rfl rfl rfl (.cons (A.le_refl _) (.cons (A.le_refl _) .nil)) rfl (nb rfl))) ?_
        refine AL.go (OpR.plain rfl (r_storeN ti_27 rfl rfl rfl rfl rfl (nb rfl) (by simp only [putAt, tks, tkz, tkn, dps, dpz, cap, nap, apn, lnc, lnn, zad, Nat.reduceAdd, adz]; rfl) (by rintro _ ⟨⟩))) ?_
        refine AL.nil ?_
        refine thenN ?_
        refine AW.ret ?_
        refine thenR ?_
        refine fin_id (.inr rfl) (ends_of rfl (.cell ti_27 rfl rfl (by simp only [loaded, if_true, ler, tks, tkz, tkn, dps, dpz, cap, nap, apn, lnc, lnn, zad, Nat.reduceAdd, adz]; rfl) .nil)) ?_ (.cons rfl (Ob.le_of_eq (by first | (simp_all [itemM, countM, aggM]; done) | (exfalso; simp_all; done))) .nil) rfl rfl rfl rfl
        simp only [retA]
        first | (exfalso; simp_all; done) | (refine A.le_of_eq ?_; simp_all [itemM, countM, aggM])
      · have h3n := h3; try simp only [dtt, dff, bqi, bqf, bni, bnf, nt1, nf1, nt0, nf0, ne_eq, ilt, ile] at h3n
        refine AW.skip ?_
        refine thenN ?_
        refine AW.seq ?_
        refine AW.region ?_
        refine AL.go (OpR.plain rfl (r_move rfl (nb rfl) (by rintro _ ⟨⟩))) ?_
        refine AL.go (OpR.plain rfl (r_callId (or_q _ (by repeat' (first | assumption | apply Good.take | apply Good.must | apply Good.name | apply Good.fail4 | apply Good.orM))) en_23 rfl rfl rfl rfl (.cons (A.le_refl _) .nil) rfl (.cons rfl .nil) rfl rfl rfl (nb rfl))) ?_
        refine AL.go (OpR.plain rfl (r_alloc 102 ti_27 zc_27 rfl rfl (nb rfl))) ?_
        refine AL.go (OpR.plain rfl (r_storeN ti_27 rfl rfl rfl rfl rfl (nb rfl) (by simp only [putAt, tks, tkz, tkn, dps, dpz, cap, nap, apn, lnc, lnn, zad, Nat.reduceAdd, adz]; rfl) (by rintro _ ⟨⟩))) ?_
        refine AL.nil ?_
        refine thenN ?_
        refine AW.seq ?_
        refine AW.region ?_
        refine AL.go (OpR.plain rfl (r_move rfl (nb rfl) (by rintro _ ⟨⟩))) ?_
        refine AL.go (OpR.plain rfl (r_callId (must_s _ (Good.ok (by repeat' (first | assumption | apply Good.take | apply Good.must | apply Good.name | apply Good.fail4 | apply Good.orM))) _) en_38 rfl rfl rfl rfl (.cons (A.le_refl _) (.cons (A.le_refl _) .nil)) rfl (.cons rfl .nil) rfl rfl rfl (nb rfl))) ?_
        refine AL.nil ?_
        refine thenN ?_
        refine AW.seq ?_
        refine AW.region ?_
        refine AL.go (OpR.plain rfl (r_move rfl (nb rfl) (by rintro _ ⟨⟩))) ?_
        first | refine AL.go (OpR.plain rfl (r_load ti_27 rfl rfl (by simp only [loaded, mpc, mpn, if_true, ler, tks, tkz, tkn, dps, dpz, cap, nap, apn, lnc, lnn, zad, Nat.reduceAdd, adz]; rfl) (nb rfl))) ?_ | refine AL.go (OpR.plain rfl (r_loadp ti_27 rfl (by simp only [loaded, mpc, mpn, if_true, ler, tks, tkz, tkn, dps, dpz, cap, nap, apn, lnc, lnn, zad, Nat.reduceAdd, adz]; rfl) (nb rfl))) ?_
        refine AL.go (OpR.plain rfl (r_buildSlice un_25 ti_27 rfl rfl rfl rfl rfl (by decide) (by decide) rfl (nb rfl))) ?_
        refine AL.go (OpR.plain rfl (r_callFun (of1_s _ _) en_55 rfl rfl rfl rfl (.cons (A.le_refl _) (.cons (A.le_refl _) .nil)) rfl (nb rfl))) ?_
        refine AL.go (OpR.plain rfl (r_storeN ti_27 rfl rfl rfl rfl rfl (nb rfl) (by simp only [putAt, tks, tkz, tkn, dps, dpz, cap, nap, apn, lnc, lnn, zad, Nat.reduceAdd, adz]; rfl) (by rintro _ ⟨⟩))) ?_
        refine AL.nil ?_
        refine thenN ?_
        refine AW.ret ?_
        refine fin_id (.inr rfl) (ends_of rfl (.cell ti_27 rfl rfl (by simp only [loaded, if_true, ler, tks, tkz, tkn, dps, dpz, cap, nap, apn, lnc, lnn, zad, Nat.reduceAdd, adz]; rfl) .nil)) ?_ (.cons rfl (Ob.le_of_eq (by first | (simp_all [itemM, countM, aggM]; done) | (exfalso; simp_all; done))) .nil) rfl rfl rfl rfl
        simp only [retA]
        first | (exfalso; simp_all; done) | (refine A.le_of_eq ?_; simp_all [itemM, countM, aggM])
    · have h2n := h2; try simp only [dtt, dff, bqi, bqf, bni, bnf, nt1, nf1, nt0, nf0, ne_eq, ilt, ile] at h2n
      refine AL.go (.off rfl rfl (nb rfl) rfl (by rw [h2]; decide) rfl (nb rfl)) ?_
      refine AL.go (.off rfl rfl (nb rfl) rfl (by rw [h2]; decide) rfl (nb rfl)) ?_
      refine AL.go (OpR.plain rfl (r_pickFb rfl (h2) rfl (nb rfl) (by rintro _ ⟨⟩; rfl))) ?_
      refine AL.nil ?_
      refine thenN ?_
      refine AW.condF rfl (rfl) ?_
      refine AW.skip ?_
      refine thenN ?_
      refine AW.seq ?_
      refine AW.region ?_
      refine AL.go (OpR.plain rfl (r_move rfl (nb rfl) (by rintro _ ⟨⟩))) ?_
      refine AL.go (OpR.plain rfl (r_callId (or_q _ (by repeat' (first | assumption | apply Good.take | apply Good.must | apply Good.name | apply Good.fail4 | apply Good.orM))) en_23 rfl rfl rfl rfl (.cons (A.le_refl _) .nil) rfl (.cons rfl .nil) rfl rfl rfl (nb rfl))) ?_
      refine AL.go (OpR.plain rfl (r_alloc 102 ti_27 zc_27 rfl rfl (nb rfl))) ?_
      refine AL.go (OpR.plain rfl (r_storeN ti_27 rfl rfl rfl rfl rfl (nb rfl) (by simp only [putAt, tks, tkz, tkn, dps, dpz, cap, nap, apn, lnc, lnn, zad, Nat.reduceAdd, adz]; rfl) (by rintro _ ⟨⟩))) ?_
      refine AL.nil ?_
      refine thenN ?_
      refine AW.seq ?_
      refine AW.region ?_
      refine AL.go (OpR.plain rfl (r_move rfl (nb rfl) (by rintro _ ⟨⟩))) ?_
      refine AL.go (OpR.plain rfl (r_callId (must_s _ (Good.ok (by repeat' (first | assumption | apply Good.take | apply Good.must | apply Good.name | apply Good.fail4 | apply Good.orM))) _) en_38 rfl rfl rfl rfl (.cons (A.le_refl _) (.cons (A.le_refl _) .nil)) rfl (.cons rfl .nil) rfl rfl rfl (nb rfl))) ?_
      refine AL.nil ?_
      refine thenN ?_
      refine AW.seq ?_
      refine AW.region ?_
      refine AL.go (OpR.plain rfl (r_move rfl (nb rfl) (by rintro _ ⟨⟩))) ?_
      first | refine AL.go (OpR.plain rfl (r_load ti_27 rfl rfl (by simp only [loaded, mpc, mpn, if_true, ler, tks, tkz, tkn, dps, dpz, cap, nap, apn, lnc, lnn, zad, Nat.reduceAdd, adz]; rfl) (nb rfl))) ?_ | refine AL.go (OpR.plain rfl (r_loadp ti_27 rfl (by simp only [loaded, mpc, mpn, if_true, ler, tks, tkz, tkn, dps, dpz, cap, nap, apn, lnc, lnn, zad, Nat.reduceAdd, adz]; rfl) (nb rfl))) ?_
      refine AL.go (OpR.plain rfl (r_buildSlice un_25 ti_27 rfl rfl rfl rfl rfl (by decide) (by decide) rfl (nb rfl))) ?_
      refine AL.go (OpR.plain rfl (r_callFun (of1_s _ _) en_55 rfl rfl rfl rfl (.cons (A.le_refl _) (.cons (A.le_refl _) .nil)) rfl (nb rfl))) ?_
      refine AL.go (OpR.plain rfl (r_storeN ti_27 rfl rfl rfl rfl rfl (nb rfl) (by simp only [putAt, tks, tkz, tkn, dps, dpz, cap, nap, apn, lnc, lnn, zad, Nat.reduceAdd, adz]; rfl) (by rintro _ ⟨⟩))) ?_
      refine AL.nil ?_
      refine thenN ?_
      refine AW.ret ?_
      refine fin_id (.inr rfl) (ends_of rfl (.cell ti_27 rfl rfl (by simp only [loaded, if_true, ler, tks, tkz, tkn, dps, dpz, cap, nap, apn, lnc, lnn, zad, Nat.reduceAdd, adz]; rfl) .nil)) ?_ (.cons rfl (Ob.le_of_eq (by first | (simp_all [itemM, countM, aggM]; done) | (exfalso; simp_all; done))) .nil) rfl rfl rfl rfl
      simp only [retA]
      first | (exfalso; simp_all; done) | (refine A.le_of_eq ?_; simp_all [itemM, countM, aggM])
  · have h1n := h1; try simp only [dtt, dff, bqi, bqf, bni, bnf, nt1, nf1, nt0, nf0, ne_eq, ilt, ile] at h1n
    refine AW.seq ?_
    refine AW.region ?_
    refine AL.go (OpR.plain rfl (r_move rfl (nb rfl) (by rintro _ ⟨⟩))) ?_
    refine AL.go (OpR.plain rfl (r_callId (take_s _ (Good.ok (by repeat' (first | assumption | apply Good.take | apply Good.must | apply Good.name | apply Good.fail4 | apply Good.orM))) _) en_42 rfl rfl rfl rfl (.cons (A.le_refl _) (.cons (A.le_refl _) .nil)) rfl (.cons rfl .nil) rfl rfl rfl (nb rfl))) ?_
    refine AL.go (OpR.plain rfl (r_assign rfl (nb rfl) (by rintro _ ⟨⟩))) ?_
    refine AL.nil ?_
    refine thenN ?_
    refine AW.condb rfl (fun h4 => ?_) (fun h4 => ?_)
    · have h4n := h4; try simp only [dtt, dff, bqi, bqf, bni, bnf, nt1, nf1, nt0, nf0, ne_eq, ilt, ile] at h4n
      refine AW.region ?_
      refine AL.go (OpR.plain rfl (r_assign rfl (nb rfl) (by rintro _ ⟨⟩; rfl))) ?_
      refine AL.nil ?_
      refine inbN ?_
      refine thenN ?_
      refine AW.seq ?_
      refine AW.region ?_
      refine AL.go (OpR.plain rfl (r_move rfl (nb rfl) (by rintro _ ⟨⟩))) ?_
      refine AL.go (OpR.plain rfl (r_callId (must_s _ (Good.ok (by repeat' (first | assumption | apply Good.take | apply Good.must | apply Good.name | apply Good.fail4 | apply Good.orM))) _) en_38 rfl rfl rfl rfl (.cons (A.le_refl _) (.cons (A.le_refl _) .nil)) rfl (.cons rfl .nil) rfl rfl rfl (nb rfl))) ?_
      refine AL.nil ?_
      refine thenN ?_
      refine AW.seq ?_
      refine AW.seq ?_
      refine AW.region ?_
      refine AL.go (OpR.plain rfl (r_move rfl (nb rfl) (by rintro _ ⟨⟩))) ?_
      refine AL.go (OpR.plain rfl (r_bin rfl rfl (nb rfl) rfl (run_int_eql _ _ _))) ?_
      refine AL.go (OpR.plain rfl (r_move rfl (nb rfl) (by rintro _ ⟨⟩))) ?_
      refine AL.ifb (t := 23) rfl (fun h5 => ?_) (fun h5 => ?_)
      · have h5n := h5; try simp only [dtt, dff, bqi, bqf, bni, bnf, nt1, nf1, nt0, nf0, ne_eq, ilt, ile] at h5n
        refine AL.go (OpR.onb rfl rfl (nb rfl) rfl (h5) (r_move rfl (nb rfl) (by rintro _ ⟨⟩))) ?_
        refine AL.go (OpR.onb rfl rfl (nb rfl) rfl (h5) (r_callId (take_s _ (Good.ok (by repeat' (first | assumption | apply Good.take | apply Good.must | apply Good.name | apply Good.fail4 | apply Good.orM))) _) en_42 rfl rfl rfl rfl (.cons (A.le_refl _) (.cons (A.le_refl _) .nil)) rfl (.cons rfl .nil) rfl rfl rfl (nb rfl))) ?_
        refine AL.go (OpR.plain rfl (r_pickTb rfl (h5) rfl (nb rfl) (by rintro _ ⟨⟩))) ?_
        refine AL.nil ?_
        refine thenN ?_
        refine AW.condb rfl (fun h6 => ?_) (fun h6 => ?_)
        · have h6n := h6; try simp only [dtt, dff, bqi, bqf, bni, bnf, nt1, nf1, nt0, nf0, ne_eq, ilt, ile] at h6n
          refine AW.seq ?_
          refine AW.region ?_
          refine AL.go (OpR.plain rfl (r_move rfl (nb rfl) (by rintro _ ⟨⟩))) ?_
          refine AL.go (OpR.plain rfl (r_callId (must_s _ (Good.ok (by repeat' (first | assumption | apply Good.take | apply Good.must | apply Good.name | apply Good.fail4 | apply Good.orM))) _) en_38 rfl rfl rfl rfl (.cons (A.le_refl _) (.cons (A.le_refl _) .nil)) rfl (.cons rfl .nil) rfl rfl rfl (nb rfl))) ?_
          refine AL.nil ?_
          refine thenN ?_
          refine AW.seq ?_
          refine AW.region ?_
          refine AL.go (OpR.plain rfl (r_callFun (of0_s _) en_55 rfl rfl rfl rfl (.cons (A.le_refl _) (.cons (A.le_refl _) .nil)) rfl (nb rfl))) ?_
          refine AL.go (OpR.plain rfl (r_storeN ti_27 rfl rfl rfl rfl rfl (nb rfl) (by simp only [putAt, tks, tkz, tkn, dps, dpz, cap, nap, apn, lnc, lnn, zad, Nat.reduceAdd, adz]; rfl) (by rintro _ ⟨⟩))) ?_
          refine AL.nil ?_
          refine thenN ?_
          refine AW.ret ?_
          refine thenR ?_
          refine fin_id (.inr rfl) (ends_of rfl (.cell ti_27 rfl rfl (by simp only [loaded, if_true, ler, tks, tkz, tkn, dps, dpz, cap, nap, apn, lnc, lnn, zad, Nat.reduceAdd, adz]; rfl) .nil)) ?_ (.cons rfl (Ob.le_of_eq (by first | (simp_all [itemM, countM, aggM]; done) | (exfalso; simp_all; done))) .nil) rfl rfl rfl rfl
          simp only [retA]
          first | (exfalso; simp_all; done) | (refine A.le_of_eq ?_; simp_all [itemM, countM, aggM])
        · have h6n := h6; try simp only [dtt, dff, bqi, bqf, bni, bnf, nt1, nf1, nt0, nf0, ne_eq, ilt, ile] at h6n
          refine AW.skip ?_
          refine thenN ?_
          refine AW.seq ?_
          refine AW.region ?_
          refine AL.go (OpR.plain rfl (r_move rfl (nb rfl) (by rintro _ ⟨⟩))) ?_
          refine AL.go (OpR.plain rfl (r_callId (or_q _ (by repeat' (first | assumption | apply Good.take | apply Good.must | apply Good.name | apply Good.fail4 | apply Good.orM))) en_23 rfl rfl rfl rfl (.cons (A.le_refl _) .nil) rfl (.cons rfl .nil) rfl rfl rfl (nb rfl))) ?_
          refine AL.go (OpR.plain rfl (r_alloc 102 ti_27 zc_27 rfl rfl (nb rfl))) ?_
          refine AL.go (OpR.plain rfl (r_storeN ti_27 rfl rfl rfl rfl rfl (nb rfl) (by simp only [putAt, tks, tkz, tkn, dps, dpz, cap, nap, apn, lnc, lnn, zad, Nat.reduceAdd, adz]; rfl) (by rintro _ ⟨⟩))) ?_
          refine AL.nil ?_
          refine thenN ?_
          refine AW.seq ?_
          refine AW.region ?_
          refine AL.go (OpR.plain rfl (r_move rfl (nb rfl) (by rintro _ ⟨⟩))) ?_
          refine AL.go (OpR.plain rfl (r_callId (must_s _ (Good.ok (by repeat' (first | assumption | apply Good.take | apply Good.must | apply Good.name | apply Good.fail4 | apply Good.orM))) _) en_38 rfl rfl rfl rfl (.cons (A.le_refl _) (.cons (A.le_refl _) .nil)) rfl (.cons rfl .nil) rfl rfl rfl (nb rfl))) ?_
          refine AL.nil ?_
          refine thenN ?_
          refine AW.seq ?_
          refine AW.region ?_
          refine AL.go (OpR.plain rfl (r_move rfl (nb rfl) (by rintro _ ⟨⟩))) ?_
          first | refine AL.go (OpR.plain rfl (r_load ti_27 rfl rfl (by simp only [loaded, mpc, mpn, if_true, ler, tks, tkz, tkn, dps, dpz, cap, nap, apn, lnc, lnn, zad, Nat.reduceAdd, adz]; rfl) (nb rfl))) ?_ | refine AL.go (OpR.plain rfl (r_loadp ti_27 rfl (by simp only [loaded, mpc, mpn, if_true, ler, tks, tkz, tkn, dps, dpz, cap, nap, apn, lnc, lnn, zad, Nat.reduceAdd, adz]; rfl) (nb rfl))) ?_
          refine AL.go (OpR.plain rfl (r_buildSlice un_25 ti_27 rfl rfl rfl rfl rfl (by decide) (by decide) rfl (nb rfl))) ?_
          refine AL.go (OpR.plain rfl (r_callFun (of1_s _ _) en_55 rfl rfl rfl rfl (.cons (A.le_refl _) (.cons (A.le_refl _) .nil)) rfl (nb rfl))) ?_
          refine AL.go (OpR.plain rfl (r_storeN ti_27 rfl rfl rfl rfl rfl (nb rfl) (by simp only [putAt, tks, tkz, tkn, dps, dpz, cap, nap, apn, lnc, lnn, zad, Nat.reduceAdd, adz]; rfl) (by rintro _ ⟨⟩))) ?_
          refine AL.nil ?_
          refine thenN ?_
          refine AW.ret ?_
          refine fin_id (.inr rfl) (ends_of rfl (.cell ti_27 rfl rfl (by simp only [loaded, if_true, ler, tks, tkz, tkn, dps, dpz, cap, nap, apn, lnc, lnn, zad, Nat.reduceAdd, adz]; rfl) .nil)) ?_ (.cons rfl (Ob.le_of_eq (by first | (simp_all [itemM, countM, aggM]; done) | (exfalso; simp_all; done))) .nil) rfl rfl rfl rfl
          simp only [retA]
          first | (exfalso; simp_all; done) | (refine A.le_of_eq ?_; simp_all [itemM, countM, aggM])
      · have h5n := h5; try simp only [dtt, dff, bqi, bqf, bni, bnf, nt1, nf1, nt0, nf0, ne_eq, ilt, ile] at h5n
        refine AL.go (.off rfl rfl (nb rfl) rfl (by rw [h5]; decide) rfl (nb rfl)) ?_
        refine AL.go (.off rfl rfl (nb rfl) rfl (by rw [h5]; decide) rfl (nb rfl)) ?_
        refine AL.go (OpR.plain rfl (r_pickFb rfl (h5) rfl (nb rfl) (by rintro _ ⟨⟩; rfl))) ?_
        refine AL.nil ?_
        refine thenN ?_
        refine AW.condF rfl (rfl) ?_
        refine AW.skip ?_
        refine thenN ?_
        refine AW.seq ?_
        refine AW.region ?_
        refine AL.go (OpR.plain rfl (r_move rfl (nb rfl) (by rintro _ ⟨⟩))) ?_
        refine AL.go (OpR.plain rfl (r_callId (or_q _ (by repeat' (first | assumption | apply Good.take | apply Good.must | apply Good.name | apply Good.fail4 | apply Good.orM))) en_23 rfl rfl rfl rfl (.cons (A.le_refl _) .nil) rfl (.cons rfl .nil) rfl rfl rfl (nb rfl))) ?_
        refine AL.go (OpR.plain rfl (r_alloc 102 ti_27 zc_27 rfl rfl (nb rfl))) ?_
        refine AL.go (OpR.plain rfl (r_storeN ti_27 rfl rfl rfl rfl rfl (nb rfl) (by simp only [putAt, tks, tkz, tkn, dps, dpz, cap, nap, apn, lnc, lnn, zad, Nat.reduceAdd, adz]; rfl) (by rintro _ ⟨⟩))) ?_
        refine AL.nil ?_
        refine thenN ?_
        refine AW.seq ?_
        refine AW.region ?_
        refine AL.go (OpR.plain rfl (r_move rfl (nb rfl) (by rintro _ ⟨⟩))) ?_
        refine AL.go (OpR.plain rfl (r_callId (must_s _ (Good.ok (by repeat' (first | assumption | apply Good.take | apply Good.must | apply Good.name | apply Good.fail4 | apply Good.orM))) _) en_38 rfl rfl rfl rfl (.cons (A.le_refl _) (.cons (A.le_refl _) .nil)) rfl (.cons rfl .nil) rfl rfl rfl (nb rfl))) ?_
        refine AL.nil ?_
        refine thenN ?_
        refine AW.seq ?_
        refine AW.region ?_
        refine AL.go (OpR.plain rfl (r_move rfl (nb rfl) (by rintro _ ⟨⟩))) ?_
        first | refine AL.go (OpR.plain rfl (r_load ti_27 rfl rfl (by simp only [loaded, mpc, mpn, if_true, ler, tks, tkz, tkn, dps, dpz, cap, nap, apn, lnc, lnn, zad, Nat.reduceAdd, adz]; rfl) (nb rfl))) ?_ | refine AL.go (OpR.plain rfl (r_loadp ti_27 rfl (by simp only [loaded, mpc, mpn, if_true, ler, tks, tkz, tkn, dps, dpz, cap, nap, apn, lnc, lnn, zad, Nat.reduceAdd, adz]; rfl) (nb rfl))) ?_
        refine AL.go (OpR.plain rfl (r_buildSlice un_25 ti_27 rfl rfl rfl rfl rfl (by decide) (by decide) rfl (nb rfl))) ?_
        refine AL.go (OpR.plain rfl (r_callFun (of1_s _ _) en_55 rfl rfl rfl rfl (.cons (A.le_refl _) (.cons (A.le_refl _) .nil)) rfl (nb rfl))) ?_
        refine AL.go (OpR.plain rfl (r_storeN ti_27 rfl rfl rfl rfl rfl (nb rfl) (by simp only [putAt, tks, tkz, tkn, dps, dpz, cap, nap, apn, lnc, lnn, zad, Nat.reduceAdd, adz]; rfl) (by rintro _ ⟨⟩))) ?_
        refine AL.nil ?_
        refine thenN ?_
        refine AW.ret ?_
        refine fin_id (.inr rfl) (ends_of rfl (.cell ti_27 rfl rfl (by simp only [loaded, if_true, ler, tks, tkz, tkn, dps, dpz, cap, nap, apn, lnc, lnn, zad, Nat.reduceAdd, adz]; rfl) .nil)) ?_ (.cons rfl (Ob.le_of_eq (by first | (simp_all [itemM, countM, aggM]; done) | (exfalso; simp_all; done))) .nil) rfl rfl rfl rfl
        simp only [retA]
        first | (exfalso; simp_all; done) | (refine A.le_of_eq ?_; simp_all [itemM, countM, aggM])
    · have h4n := h4; try simp only [dtt, dff, bqi, bqf, bni, bnf, nt1, nf1, nt0, nf0, ne_eq, ilt, ile] at h4n
      refine AW.seq ?_
      refine AW.region ?_
      refine AL.go (OpR.plain rfl (r_move rfl (nb rfl) (by rintro _ ⟨⟩))) ?_
      refine AL.go (OpR.plain rfl (r_callId (take_s _ (Good.ok (by repeat' (first | assumption | apply Good.take | apply Good.must | apply Good.name | apply Good.fail4 | apply Good.orM))) _) en_42 rfl rfl rfl rfl (.cons (A.le_refl _) (.cons (A.le_refl _) .nil)) rfl (.cons rfl .nil) rfl rfl rfl (nb rfl))) ?_
      refine AL.go (OpR.plain rfl (r_assign rfl (nb rfl) (by rintro _ ⟨⟩))) ?_
      refine AL.nil ?_
      refine thenN ?_
      refine AW.condb rfl (fun h7 => ?_) (fun h7 => ?_)
      · have h7n := h7; try simp only [dtt, dff, bqi, bqf, bni, bnf, nt1, nf1, nt0, nf0, ne_eq, ilt, ile] at h7n
        refine AW.region ?_
        refine AL.go (OpR.plain rfl (r_assign rfl (nb rfl) (by rintro _ ⟨⟩; rfl))) ?_
        refine AL.nil ?_
        refine inbN ?_
        refine thenN ?_
        refine AW.seq ?_
        refine AW.region ?_
        refine AL.go (OpR.plain rfl (r_move rfl (nb rfl) (by rintro _ ⟨⟩))) ?_
        refine AL.go (OpR.plain rfl (r_callId (must_s _ (Good.ok (by repeat' (first | assumption | apply Good.take | apply Good.must | apply Good.name | apply Good.fail4 | apply Good.orM))) _) en_38 rfl rfl rfl rfl (.cons (A.le_refl _) (.cons (A.le_refl _) .nil)) rfl (.cons rfl .nil) rfl rfl rfl (nb rfl))) ?_
        refine AL.nil ?_
        refine thenN ?_
        refine AW.seq ?_
        refine AW.seq ?_
        refine AW.region ?_
        refine AL.go (OpR.plain rfl (r_move rfl (nb rfl) (by rintro _ ⟨⟩))) ?_
        refine AL.go (OpR.plain rfl (r_bin rfl rfl (nb rfl) rfl (run_int_eql _ _ _))) ?_
        refine AL.go (OpR.plain rfl (r_move rfl (nb rfl) (by rintro _ ⟨⟩))) ?_
        refine AL.ifb (t := 23) rfl (fun h8 => ?_) (fun h8 => ?_)
        · have h8n := h8; try simp only [dtt, dff, bqi, bqf, bni, bnf, nt1, nf1, nt0, nf0, ne_eq, ilt, ile] at h8n
          refine AL.go (OpR.onb rfl rfl (nb rfl) rfl (h8) (r_move rfl (nb rfl) (by rintro _ ⟨⟩))) ?_
          refine AL.go (OpR.onb rfl rfl (nb rfl) rfl (h8) (r_callId (take_s _ (Good.ok (by repeat' (first | assumption | apply Good.take | apply Good.must | apply Good.name | apply Good.fail4 | apply Good.orM))) _) en_42 rfl rfl rfl rfl (.cons (A.le_refl _) (.cons (A.le_refl _) .nil)) rfl (.cons rfl .nil) rfl rfl rfl (nb rfl))) ?_
          refine AL.go (OpR.plain rfl (r_pickTb rfl (h8) rfl (nb rfl) (by rintro _ ⟨⟩))) ?_
          refine AL.nil ?_
          refine thenN ?_
          refine AW.condb rfl (fun h9 => ?_) (fun h9 => ?_)
          · have h9n := h9; try simp only [dtt, dff, bqi, bqf, bni, bnf, nt1, nf1, nt0, nf0, ne_eq, ilt, ile] at h9n
            refine AW.seq ?_
            refine AW.region ?_
            refine AL.go (OpR.plain rfl (r_move rfl (nb rfl) (by rintro _ ⟨⟩))) ?_
            refine AL.go (OpR.plain rfl (r_callId (must_s _ (Good.ok (by repeat' (first | assumption | apply Good.take | apply Good.must | apply Good.name | apply Good.fail4 | apply Good.orM))) _) en_38 rfl rfl rfl rfl (.cons (A.le_refl _) (.cons (A.le_refl _) .nil)) rfl (.cons rfl .nil) rfl rfl rfl (nb rfl))) ?_
            refine AL.nil ?_
            refine thenN ?_
            refine AW.seq ?_
            refine AW.region ?_
            refine AL.go (OpR.plain rfl (r_callFun (of0_s _) en_55 rfl rfl rfl rfl (.cons (A.le_refl _) (.cons (A.le_refl _) .nil)) rfl (nb rfl))) ?_
            refine AL.go (OpR.plain rfl (r_storeN ti_27 rfl rfl rfl rfl rfl (nb rfl) (by simp only [putAt, tks, tkz, tkn, dps, dpz, cap, nap, apn, lnc, lnn, zad, Nat.reduceAdd, adz]; rfl) (by rintro _ ⟨⟩))) ?_
            refine AL.nil ?_
            refine thenN ?_
            refine AW.ret ?_
            refine thenR ?_
            refine fin_id (.inr rfl) (ends_of rfl (.cell ti_27 rfl rfl (by simp only [loaded, if_true, ler, tks, tkz, tkn, dps, dpz, cap, nap, apn, lnc, lnn, zad, Nat.reduceAdd, adz]; rfl) .nil)) ?_ (.cons rfl (Ob.le_of_eq (by first | (simp_all [itemM, countM, aggM]; done) | (exfalso; simp_all; done))) .nil) rfl rfl rfl rfl
            simp only [retA]
            first | (exfalso; simp_all; done) | (refine A.le_of_eq ?_; simp_all [itemM, countM, aggM])
          · have h9n := h9; try simp only [dtt, dff, bqi, bqf, bni, bnf, nt1, nf1, nt0, nf0, ne_eq, ilt, ile] at h9n
            refine AW.skip ?_
            refine thenN ?_
            refine AW.seq ?_
            refine AW.region ?_
            refine AL.go (OpR.plain rfl (r_move rfl (nb rfl) (by rintro _ ⟨⟩))) ?_
            refine AL.go (OpR.plain rfl (r_callId (or_q _ (by repeat' (first | assumption | apply Good.take | apply Good.must | apply Good.name | apply Good.fail4 | apply Good.orM))) en_23 rfl rfl rfl rfl (.cons (A.le_refl _) .nil) rfl (.cons rfl .nil) rfl rfl rfl (nb rfl))) ?_
            refine AL.go (OpR.plain rfl (r_alloc 102 ti_27 zc_27 rfl rfl (nb rfl))) ?_
            refine AL.go (OpR.plain rfl (r_storeN ti_27 rfl rfl rfl rfl rfl (nb rfl) (by simp only [putAt, tks, tkz, tkn, dps, dpz, cap, nap, apn, lnc, lnn, zad, Nat.reduceAdd, adz]; rfl) (by rintro _ ⟨⟩))) ?_
            refine AL.nil ?_
            refine thenN ?_
            refine AW.seq ?_
            refine AW.region ?_
            refine AL.go (OpR.plain rfl (r_move rfl (nb rfl) (by rintro _ ⟨⟩))) ?_
            refine AL.go (OpR.plain rfl (r_callId (must_s _ (Good.ok (by repeat' (first | assumption | apply Good.take | apply Good.must | apply Good.name | apply Good.fail4 | apply Good.orM))) _) en_38 rfl rfl rfl rfl (.cons (A.le_refl _) (.cons (A.le_refl _) .nil)) rfl (.cons rfl .nil) rfl rfl rfl (nb rfl))) ?_
            refine AL.nil ?_
            refine thenN ?_
            refine AW.seq ?_
            refine AW.region ?_
            refine AL.go (OpR.plain rfl (r_move rfl (nb rfl) (by rintro _ ⟨⟩))) ?_
            first | refine AL.go (OpR.plain rfl (r_load ti_27 rfl rfl (by simp only [loaded, mpc, mpn, if_true, ler, tks, tkz, tkn, dps, dpz, cap, nap, apn, lnc, lnn, zad, Nat.reduceAdd, adz]; rfl) (nb rfl))) ?_ | refine AL.go (OpR.plain rfl (r_loadp ti_27 rfl (by simp only [loaded, mpc, mpn, if_true, ler, tks, tkz, tkn, dps, dpz, cap, nap, apn, lnc, lnn, zad, Nat.reduceAdd, adz]; rfl) (nb rfl))) ?_
            refine AL.go (OpR.plain rfl (r_buildSlice un_25 ti_27 rfl rfl rfl rfl rfl (by decide) (by decide) rfl (nb rfl))) ?_
            refine AL.go (OpR.plain rfl (r_callFun (of1_s _ _) en_55 rfl rfl rfl rfl (.cons (A.le_refl _) (.cons (A.le_refl _) .nil)) rfl (nb rfl))) ?_
            refine AL.go (OpR.plain rfl (r_storeN ti_27 rfl rfl rfl rfl rfl (nb rfl) (by simp only [putAt, tks, tkz, tkn, dps, dpz, cap, nap, apn, lnc, lnn, zad, Nat.reduceAdd, adz]; rfl) (by rintro _ ⟨⟩))) ?_
            refine AL.nil ?_
            refine thenN ?_
            refine AW.ret ?_
            refine fin_id (.inr rfl) (ends_of rfl (.cell ti_27 rfl rfl (by simp only [loaded, if_true, ler, tks, tkz, tkn, dps, dpz, cap, nap, apn, lnc, lnn, zad, Nat.reduceAdd, adz]; rfl) .nil)) ?_ (.cons rfl (Ob.le_of_eq (by first | (simp_all [itemM, countM, aggM]; done) | (exfalso; simp_all; done))) .nil) rfl rfl rfl rfl
            simp only [retA]
            first | (exfalso; simp_all; done) | (refine A.le_of_eq ?_; simp_all [itemM, countM, aggM])
        · have h8n := h8; try simp only [dtt, dff, bqi, bqf, bni, bnf, nt1, nf1, nt0, nf0, ne_eq, ilt, ile] at h8n
          refine AL.go (.off rfl rfl (nb rfl) rfl (by rw [h8]; decide) rfl (nb rfl)) ?_
          refine AL.go (.off rfl rfl (nb rfl) rfl (by rw [h8]; decide) rfl (nb rfl)) ?_
          refine AL.go (OpR.plain rfl (r_pickFb rfl (h8) rfl (nb rfl) (by rintro _ ⟨⟩; rfl))) ?_
          refine AL.nil ?_
          refine thenN ?_
          refine AW.condF rfl (rfl) ?_
          refine AW.skip ?_
          refine thenN ?_
          refine AW.seq ?_
          refine AW.region ?_
          refine AL.go (OpR.plain rfl (r_move rfl (nb rfl) (by rintro _ ⟨⟩))) ?_
          refine AL.go (OpR.plain rfl (r_callId (or_q _ (by repeat' (first | assumption | apply Good.take | apply Good.must | apply Good.name | apply Good.fail4 | apply Good.orM))) en_23 rfl rfl rfl rfl (.cons (A.le_refl _) .nil) rfl (.cons rfl .nil) rfl rfl rfl (nb rfl))) ?_
          refine AL.go (OpR.plain rfl (r_alloc 102 ti_27 zc_27 rfl rfl (nb rfl))) ?_
          refine AL.go (OpR.plain rfl (r_storeN ti_27 rfl rfl rfl rfl rfl (nb rfl) (by simp only [putAt, tks, tkz, tkn, dps, dpz, cap, nap, apn, lnc, lnn, zad, Nat.reduceAdd, adz]; rfl) (by rintro _ ⟨⟩))) ?_
          refine AL.nil ?_
          refine thenN ?_
          refine AW.seq ?_
          refine AW.region ?_
          refine AL.go (OpR.plain rfl (r_move rfl (nb rfl) (by rintro _ ⟨⟩))) ?_
          refine AL.go (OpR.plain rfl (r_callId (must_s _ (Good.ok (by repeat' (first | assumption | apply Good.take | apply Good.must | apply Good.name | apply Good.fail4 | apply Good.orM))) _) en_38 rfl rfl rfl rfl (.cons (A.le_refl _) (.cons (A.le_refl _) .nil)) rfl (.cons rfl .nil) rfl rfl rfl (nb rfl))) ?_
          refine AL.nil ?_
          refine thenN ?_
          refine AW.seq ?_
          refine AW.region ?_
          refine AL.go (OpR.plain rfl (r_move rfl (nb rfl) (by rintro _ ⟨⟩))) ?_
          first | refine AL.go (OpR.plain rfl (r_load ti_27 rfl rfl (by simp only [loaded, mpc, mpn, if_true, ler, tks, tkz, tkn, dps, dpz, cap, nap, apn, lnc, lnn, zad, Nat.reduceAdd, adz]; rfl) (nb rfl))) ?_ | refine AL.go (OpR.plain rfl (r_loadp ti_27 rfl (by simp only [loaded, mpc, mpn, if_true, ler, tks, tkz, tkn, dps, dpz, cap, nap, apn, lnc, lnn, zad, Nat.reduceAdd, adz]; rfl) (nb rfl))) ?_
          refine AL.go (OpR.plain rfl (r_buildSlice un_25 ti_27 rfl rfl rfl rfl rfl (by decide) (by decide) rfl (nb rfl))) ?_
          refine AL.go (OpR.plain rfl (r_callFun (of1_s _ _) en_55 rfl rfl rfl rfl (.cons (A.le_refl _) (.cons (A.le_refl _) .nil)) rfl (nb rfl))) ?_
          refine AL.go (OpR.plain rfl (r_storeN ti_27 rfl rfl rfl rfl rfl (nb rfl) (by simp only [putAt, tks, tkz, tkn, dps, dpz, cap, nap, apn, lnc, lnn, zad, Nat.reduceAdd, adz]; rfl) (by rintro _ ⟨⟩))) ?_
          refine AL.nil ?_
          refine thenN ?_
          refine AW.ret ?_
          refine fin_id (.inr rfl) (ends_of rfl (.cell ti_27 rfl rfl (by simp only [loaded, if_true, ler, tks, tkz, tkn, dps, dpz, cap, nap, apn, lnc, lnn, zad, Nat.reduceAdd, adz]; rfl) .nil)) ?_ (.cons rfl (Ob.le_of_eq (by first | (simp_all [itemM, countM, aggM]; done) | (exfalso; simp_all; done))) .nil) rfl rfl rfl rfl
          simp only [retA]
          first | (exfalso; simp_all; done) | (refine A.le_of_eq ?_; simp_all [itemM, countM, aggM])
      · have h7n := h7; try simp only [dtt, dff, bqi, bqf, bni, bnf, nt1, nf1, nt0, nf0, ne_eq, ilt, ile] at h7n
        refine AW.seq ?_
        refine AW.region ?_
        refine AL.go (OpR.plain rfl (r_move rfl (nb rfl) (by rintro _ ⟨⟩))) ?_
        refine AL.go (OpR.plain rfl (r_callId (take_s _ (Good.ok (by repeat' (first | assumption | apply Good.take | apply Good.must | apply Good.name | apply Good.fail4 | apply Good.orM))) _) en_42 rfl rfl rfl rfl (.cons (A.le_refl _) (.cons (A.le_refl _) .nil)) rfl (.cons rfl .nil) rfl rfl rfl (nb rfl))) ?_
        refine AL.go (OpR.plain rfl (r_assign rfl (nb rfl) (by rintro _ ⟨⟩))) ?_
        refine AL.nil ?_
        refine thenN ?_
        refine AW.condb rfl (fun h10 => ?_) (fun h10 => ?_)
        · have h10n := h10; try simp only [dtt, dff, bqi, bqf, bni, bnf, nt1, nf1, nt0, nf0, ne_eq, ilt, ile] at h10n
          refine AW.region ?_
          refine AL.go (OpR.plain rfl (r_assign rfl (nb rfl) (by rintro _ ⟨⟩; rfl))) ?_
          refine AL.nil ?_
          refine inbN ?_
          refine thenN ?_
          refine AW.seq ?_
          refine AW.region ?_
          refine AL.go (OpR.plain rfl (r_move rfl (nb rfl) (by rintro _ ⟨⟩))) ?_
          refine AL.go (OpR.plain rfl (r_callId (must_s _ (Good.ok (by repeat' (first | assumption | apply Good.take | apply Good.must | apply Good.name | apply Good.fail4 | apply Good.orM))) _) en_38 rfl rfl rfl rfl (.cons (A.le_refl _) (.cons (A.le_refl _) .nil)) rfl (.cons rfl .nil) rfl rfl rfl (nb rfl))) ?_
          refine AL.nil ?_
          refine thenN ?_
          refine AW.seq ?_
          refine AW.seq ?_
          refine AW.region ?_
          refine AL.go (OpR.plain rfl (r_move rfl (nb rfl) (by rintro _ ⟨⟩))) ?_
          refine AL.go (OpR.plain rfl (r_bin rfl rfl (nb rfl) rfl (run_int_eql _ _ _))) ?_
          refine AL.go (OpR.plain rfl (r_move rfl (nb rfl) (by rintro _ ⟨⟩))) ?_
          refine AL.ifb (t := 23) rfl (fun h11 => ?_) (fun h11 => ?_)
          · have h11n := h11; try simp only [dtt, dff, bqi, bqf, bni, bnf, nt1, nf1, nt0, nf0, ne_eq, ilt, ile] at h11n
            refine AL.go (OpR.onb rfl rfl (nb rfl) rfl (h11) (r_move rfl (nb rfl) (by rintro _ ⟨⟩))) ?_
            refine AL.go (OpR.onb rfl rfl (nb rfl) rfl (h11) (r_callId (take_s _ (Good.ok (by repeat' (first | assumption | apply Good.take | apply Good.must | apply Good.name | apply Good.fail4 | apply Good.orM))) _) en_42 rfl rfl rfl rfl (.cons (A.le_refl _) (.cons (A.le_refl _) .nil)) rfl (.cons rfl .nil) rfl rfl rfl (nb rfl))) ?_
            refine AL.go (OpR.plain rfl (r_pickTb rfl (h11) rfl (nb rfl) (by rintro _ ⟨⟩))) ?_
            refine AL.nil ?_
            refine thenN ?_
            refine AW.condb rfl (fun h12 => ?_) (fun h12 => ?_)
            · have h12n := h12; try simp only [dtt, dff, bqi, bqf, bni, bnf, nt1, nf1, nt0, nf0, ne_eq, ilt, ile] at h12n
              refine AW.seq ?_
              refine AW.region ?_
              refine AL.go (OpR.plain rfl (r_move rfl (nb rfl) (by rintro _ ⟨⟩))) ?_
              refine AL.go (OpR.plain rfl (r_callId (must_s _ (Good.ok (by repeat' (first | assumption | apply Good.take | apply Good.must | apply Good.name | apply Good.fail4 | apply Good.orM))) _) en_38 rfl rfl rfl rfl (.cons (A.le_refl _) (.cons (A.le_refl _) .nil)) rfl (.cons rfl .nil) rfl rfl rfl (nb rfl))) ?_
              refine AL.nil ?_
              refine thenN ?_
              refine AW.seq ?_
              refine AW.region ?_
              refine AL.go (OpR.plain rfl (r_callFun (of0_s _) en_55 rfl rfl rfl rfl (.cons (A.le_refl _) (.cons (A.le_refl _) .nil)) rfl (nb rfl))) ?_
              refine AL.go (OpR.plain rfl (r_storeN ti_27 rfl rfl rfl rfl rfl (nb rfl) (by simp only [putAt, tks, tkz, tkn, dps, dpz, cap, nap, apn, lnc, lnn, zad, Nat.reduceAdd, adz]; rfl) (by rintro _ ⟨⟩))) ?_
              refine AL.nil ?_
              refine thenN ?_
              refine AW.ret ?_
              refine thenR ?_
              refine fin_id (.inr rfl) (ends_of rfl (.cell ti_27 rfl rfl (by simp only [loaded, if_true, ler, tks, tkz, tkn, dps, dpz, cap, nap, apn, lnc, lnn, zad, Nat.reduceAdd, adz]; rfl) .nil)) ?_ (.cons rfl (Ob.le_of_eq (by first | (simp_all [itemM, countM, aggM]; done) | (exfalso; simp_all; done))) .nil) rfl rfl rfl rfl
              simp only [retA]
              first | (exfalso; simp_all; done) | (refine A.le_of_eq ?_; simp_all [itemM, countM, aggM])
            · have h12n := h12; try simp only [dtt, dff, bqi, bqf, bni, bnf, nt1, nf1, nt0, nf0, ne_eq, ilt, ile] at h12n
              refine AW.skip ?_
              refine thenN ?_
              refine AW.seq ?_
              refine AW.region ?_
              refine AL.go (OpR.plain rfl (r_move rfl (nb rfl) (by rintro _ ⟨⟩))) ?_
              refine AL.go (OpR.plain rfl (r_callId (or_q _ (by repeat' (first | assumption | apply Good.take | apply Good.must | apply Good.name | apply Good.fail4 | apply Good.orM))) en_23 rfl rfl rfl rfl (.cons (A.le_refl _) .nil) rfl (.cons rfl .nil) rfl rfl rfl (nb rfl))) ?_
              refine AL.go (OpR.plain rfl (r_alloc 102 ti_27 zc_27 rfl rfl (nb rfl))) ?_
              refine AL.go (OpR.plain rfl (r_storeN ti_27 rfl rfl rfl rfl rfl (nb rfl) (by simp only [putAt, tks, tkz, tkn, dps, dpz, cap, nap, apn, lnc, lnn, zad, Nat.reduceAdd, adz]; rfl) (by rintro _ ⟨⟩))) ?_
              refine AL.nil ?_
              refine thenN ?_
              refine AW.seq ?_
              refine AW.region ?_
              refine AL.go (OpR.plain rfl (r_move rfl (nb rfl) (by rintro _ ⟨⟩))) ?_
              refine AL.go (OpR.plain rfl (r_callId (must_s _ (Good.ok (by repeat' (first | assumption | apply Good.take | apply Good.must | apply Good.name | apply Good.fail4 | apply Good.orM))) _) en_38 rfl rfl rfl rfl (.cons (A.le_refl _) (.cons (A.le_refl _) .nil)) rfl (.cons rfl .nil) rfl rfl rfl (nb rfl))) ?_
              refine AL.nil ?_
              refine thenN ?_
              refine AW.seq ?_
              refine AW.region ?_
              refine AL.go (OpR.plain rfl (r_move rfl (nb rfl) (by rintro _ ⟨⟩))) ?_
              first | refine AL.go (OpR.plain rfl (r_load ti_27 rfl rfl (by simp only [loaded, mpc, mpn, if_true, ler, tks, tkz, tkn, dps, dpz, cap, nap, apn, lnc, lnn, zad, Nat.reduceAdd, adz]; rfl) (nb rfl))) ?_ | refine AL.go (OpR.plain rfl (r_loadp ti_27 rfl (by simp only [loaded, mpc, mpn, if_true, ler, tks, tkz, tkn, dps, dpz, cap, nap, apn, lnc, lnn, zad, Nat.reduceAdd, adz]; rfl) (nb rfl))) ?_
              refine AL.go (OpR.plain rfl (r_buildSlice un_25 ti_27 rfl rfl rfl rfl rfl (by decide) (by decide) rfl (nb rfl))) ?_
              refine AL.go (OpR.plain rfl (r_callFun (of1_s _ _) en_55 rfl rfl rfl rfl (.cons (A.le_refl _) (.cons (A.le_refl _) .nil)) rfl (nb rfl))) ?_
              refine AL.go (OpR.plain rfl (r_storeN ti_27 rfl rfl rfl rfl rfl (nb rfl) (by simp only [putAt, tks, tkz, tkn, dps, dpz, cap, nap, apn, lnc, lnn, zad, Nat.reduceAdd, adz]; rfl) (by rintro _ ⟨⟩))) ?_
              refine AL.nil ?_
              refine thenN ?_
              refine AW.ret ?_
              refine fin_id (.inr rfl) (ends_of rfl (.cell ti_27 rfl rfl (by simp only [loaded, if_true, ler, tks, tkz, tkn, dps, dpz, cap, nap, apn, lnc, lnn, zad, Nat.reduceAdd, adz]; rfl) .nil)) ?_ (.cons rfl (Ob.le_of_eq (by first | (simp_all [itemM, countM, aggM]; done) | (exfalso; simp_all; done))) .nil) rfl rfl rfl rfl
              simp only [retA]
              first | (exfalso; simp_all; done) | (refine A.le_of_eq ?_; simp_all [itemM, countM, aggM])
          · have h11n := h11; try simp only [dtt, dff, bqi, bqf, bni, bnf, nt1, nf1, nt0, nf0, ne_eq, ilt, ile] at h11n
            refine AL.go (.off rfl rfl (nb rfl) rfl (by rw [h11]; decide) rfl (nb rfl)) ?_
            refine AL.go (.off rfl rfl (nb rfl) rfl (by rw [h11]; decide) rfl (nb rfl)) ?_
            refine AL.go (OpR.plain rfl (r_pickFb rfl (h11) rfl (nb rfl) (by rintro _ ⟨⟩; rfl))) ?_
            refine AL.nil ?_
            refine thenN ?_
            refine AW.condF rfl (rfl) ?_
            refine AW.skip ?_
            refine thenN ?_
            refine AW.seq ?_
            refine AW.region ?_
            refine AL.go (OpR.plain rfl (r_move rfl (nb rfl) (by rintro _ ⟨⟩))) ?_
            refine AL.go (OpR.plain rfl (r_callId (or_q _ (by repeat' (first | assumption | apply Good.take | apply Good.must | apply Good.name | apply Good.fail4 | apply Good.orM))) en_23 rfl rfl rfl rfl (.cons (A.le_refl _) .nil) rfl (.cons rfl .nil) rfl rfl rfl (nb rfl))) ?_
            refine AL.go (OpR.plain rfl (r_alloc 102 ti_27 zc_27 rfl rfl (nb rfl))) ?_
            refine AL.go (OpR.plain rfl (r_storeN ti_27 rfl rfl rfl rfl rfl (nb rfl) (by simp only [putAt, tks, tkz, tkn, dps, dpz, cap, nap, apn, lnc, lnn, zad, Nat.reduceAdd, adz]; rfl) (by rintro _ ⟨⟩))) ?_
            refine AL.nil ?_
            refine thenN ?_
            refine AW.seq ?_
            refine AW.region ?_
            refine AL.go (OpR.plain rfl (r_move rfl (nb rfl) (by rintro _ ⟨⟩))) ?_
            refine AL.go (OpR.plain rfl (r_callId (must_s _ (Good.ok (by repeat' (first | assumption | apply Good.take | apply Good.must | apply Good.name | apply Good.fail4 | apply Good.orM))) _) en_38 rfl rfl rfl rfl (.cons (A.le_refl _) (.cons (A.le_refl _) .nil)) rfl (.cons rfl .nil) rfl rfl rfl (nb rfl))) ?_
            refine AL.nil ?_
            refine thenN ?_
            refine AW.seq ?_
            refine AW.region ?_
            refine AL.go (OpR.plain rfl (r_move rfl (nb rfl) (by rintro _ ⟨⟩))) ?_
            first | refine AL.go (OpR.plain rfl (r_load ti_27 rfl rfl (by simp only [loaded, mpc, mpn, if_true, ler, tks, tkz, tkn, dps, dpz, cap, nap, apn, lnc, lnn, zad, Nat.reduceAdd, adz]; rfl) (nb rfl))) ?_ | refine AL.go (OpR.plain rfl (r_loadp ti_27 rfl (by simp only [loaded, mpc, mpn, if_true, ler, tks, tkz, tkn, dps, dpz, cap, nap, apn, lnc, lnn, zad, Nat.reduceAdd, adz]; rfl) (nb rfl))) ?_
            refine AL.go (OpR.plain rfl (r_buildSlice un_25 ti_27 rfl rfl rfl rfl rfl (by decide) (by decide) rfl (nb rfl))) ?_
            refine AL.go (OpR.plain rfl (r_callFun (of1_s _ _) en_55 rfl rfl rfl rfl (.cons (A.le_refl _) (.cons (A.le_refl _) .nil)) rfl (nb rfl))) ?_
            refine AL.go (OpR.plain rfl (r_storeN ti_27 rfl rfl rfl rfl rfl (nb rfl) (by simp only [putAt, tks, tkz, tkn, dps, dpz, cap, nap, apn, lnc, lnn, zad, Nat.reduceAdd, adz]; rfl) (by rintro _ ⟨⟩))) ?_
            refine AL.nil ?_
            refine thenN ?_
            refine AW.ret ?_
            refine fin_id (.inr rfl) (ends_of rfl (.cell ti_27 rfl rfl (by simp only [loaded, if_true, ler, tks, tkz, tkn, dps, dpz, cap, nap, apn, lnc, lnn, zad, Nat.reduceAdd, adz]; rfl) .nil)) ?_ (.cons rfl (Ob.le_of_eq (by first | (simp_all [itemM, countM, aggM]; done) | (exfalso; simp_all; done))) .nil) rfl rfl rfl rfl
            simp only [retA]
            first | (exfalso; simp_all; done) | (refine A.le_of_eq ?_; simp_all [itemM, countM, aggM])
        · have h10n := h10; try simp only [dtt, dff, bqi, bqf, bni, bnf, nt1, nf1, nt0, nf0, ne_eq, ilt, ile] at h10n
          refine AW.seq ?_
          refine AW.region ?_
          refine AL.go (OpR.plain rfl (r_move rfl (nb rfl) (by rintro _ ⟨⟩))) ?_
          refine AL.go (OpR.plain rfl (r_callId (or_q _ (by repeat' (first | assumption | apply Good.take | apply Good.must | apply Good.name | apply Good.fail4 | apply Good.orM))) en_23 rfl rfl rfl rfl (.cons (A.le_refl _) .nil) rfl (.cons rfl .nil) rfl rfl rfl (nb rfl))) ?_
          refine AL.go (OpR.plain rfl (r_storeN ti_27 rfl rfl rfl rfl rfl (nb rfl) (by simp only [putAt, tks, tkz, tkn, dps, dpz, cap, nap, apn, lnc, lnn, zad, Nat.reduceAdd, adz]; rfl) (by rintro _ ⟨⟩))) ?_
          refine AL.nil ?_
          refine thenN ?_
          refine AW.ret ?_
          refine inbR ?_
          refine thenR ?_
          refine fin_id (.inr rfl) (ends_of rfl (.cell ti_27 rfl rfl (by simp only [loaded, if_true, ler, tks, tkz, tkn, dps, dpz, cap, nap, apn, lnc, lnn, zad, Nat.reduceAdd, adz]; rfl) .nil)) ?_ (.cons rfl (Ob.le_of_eq (by first | (simp_all [itemM, countM, aggM]; done) | (exfalso; simp_all; done))) .nil) rfl rfl rfl rfl
          simp only [retA]
          first | (exfalso; simp_all; done) | (refine A.le_of_eq ?_; simp_all [itemM, countM, aggM])

set_option maxHeartbeats 2000000 in
theorem table_s (p : Pst) (hg : Good p) (j : Int) : Am.Spec Tryd.prog 56 [A.c (.ref 0 0), A.i64 j] [(0, pbox p)] (frA (tableM j p).1) [(0, pbox (tableM j p).2)] := by
  refine spec_ofN (n := 22) Tryd.func56 rfl rfl (nb rfl) ?_
  show AW _ _ (⟨[(0, A.c (.ref 0 0)), (1, A.i64 j)], [(0, pbox p)], []⟩ : St) _
  refine AW.seq ?_
  refine AW.region ?_
  refine AL.go (OpR.plain rfl (r_alloc 101 ti_57 zc_57 rfl rfl (nb rfl))) ?_
  refine AL.nil ?_
  refine thenN ?_
  refine AW.seq ?_
  refine AW.region ?_
  refine AL.go (OpR.plain rfl (r_move rfl (nb rfl) (by rintro _ ⟨⟩))) ?_
  refine AL.go (OpR.plain rfl (r_move rfl (nb rfl) (by rintro _ ⟨⟩))) ?_
  refine AL.go (OpR.plain rfl (r_callId (name_s _ (Good.ok (by repeat' (first | assumption | apply Good.take | apply Good.must | apply Good.name | apply Good.fail4 | apply Good.orM)))) en_59 rfl rfl rfl rfl (.cons (A.le_refl _) .nil) rfl (.cons rfl .nil) rfl rfl rfl (nb rfl))) ?_
  refine AL.go (OpR.plain rfl (r_build pl_57 rfl zc_57 rfl rfl (by simp only [fillC, putAt, gez, ges, if_true, and_self, Nat.reduceLeDiff, true_and, tks, tkz, tkn, dps, dpz, cap, nap, apn, lnc, lnn, zad, Nat.reduceAdd, adz]; rfl) (nb rfl))) ?_
  refine AL.go (OpR.plain rfl (r_alloc 102 ti_57 zc_57 rfl rfl (nb rfl))) ?_
  refine AL.go (OpR.plain rfl (r_storeN ti_57 rfl rfl rfl rfl rfl (nb rfl) (by simp only [putAt, tks, tkz, tkn, dps, dpz, cap, nap, apn, lnc, lnn, zad, Nat.reduceAdd, adz]; rfl) (by rintro _ ⟨⟩))) ?_
  refine AL.nil ?_
  refine thenN ?_
  refine AW.seq ?_
  refine AW.seq ?_
  refine AW.region ?_
  refine AL.go (OpR.plain rfl (r_move rfl (nb rfl) (by rintro _ ⟨⟩))) ?_
  refine AL.go (OpR.plain rfl (r_callId (take_s _ (Good.ok (by repeat' (first | assumption | apply Good.take | apply Good.must | apply Good.name | apply Good.fail4 | apply Good.orM))) _) en_42 rfl rfl rfl rfl (.cons (A.le_refl _) (.cons (A.le_refl _) .nil)) rfl (.cons rfl .nil) rfl rfl rfl (nb rfl))) ?_
  refine AL.go (OpR.plain rfl (r_move rfl (nb rfl) (by rintro _ ⟨⟩))) ?_
  refine AL.ifb (t := 12) rfl (fun h1 => ?_) (fun h1 => ?_)
  · have h1n := h1; try simp only [dtt, dff, bqi, bqf, bni, bnf, nt1, nf1, nt0, nf0, ne_eq, ilt, ile] at h1n
    refine AL.go (.off rfl rfl (nb rfl) rfl (by rw [h1]; decide) rfl (nb rfl)) ?_
    refine AL.go (.off rfl rfl (nb rfl) rfl (by rw [h1]; decide) rfl (nb rfl)) ?_
    refine AL.go (.off rfl rfl (nb rfl) rfl (by rw [h1]; decide) rfl (nb rfl)) ?_
    refine AL.go (.off rfl rfl (nb rfl) rfl (by rw [h1]; decide) rfl (nb rfl)) ?_
    refine AL.go (OpR.plain rfl (r_pickTb rfl (h1) rfl (nb rfl) (by rintro _ ⟨⟩; rfl))) ?_
    refine AL.nil ?_
    refine thenN ?_
    refine AW.condT rfl (rfl) ?_
    refine AW.region ?_
    refine AL.go (OpR.plain rfl (r_move rfl (nb rfl) (by rintro _ ⟨⟩))) ?_
    refine AL.go (OpR.plain rfl (r_callId (name_s _ (Good.ok (by repeat' (first | assumption | apply Good.take | apply Good.must | apply Good.name | apply Good.fail4 | apply Good.orM)))) en_59 rfl rfl rfl rfl (.cons (A.le_refl _) .nil) rfl (.cons rfl .nil) rfl rfl rfl (nb rfl))) ?_
    first | refine AL.go (OpR.plain rfl (r_fieldAddr fo_57_2 (by decide) rfl (nb rfl))) ?_ | refine AL.go (OpR.plain rfl (r_fieldAddrp fo_57_2 (by decide) rfl (nb rfl))) ?_
    refine AL.go (OpR.plain rfl (r_storeN ti_9 rfl rfl rfl rfl rfl (nb rfl) (by simp only [putAt, tks, tkz, tkn, dps, dpz, cap, nap, apn, lnc, lnn, zad, Nat.reduceAdd, adz]; rfl) (by rintro _ ⟨⟩))) ?_
    refine AL.nil ?_
    refine thenN ?_
    refine AW.seq ?_
    refine AW.region ?_
    first | refine AL.go (OpR.plain rfl (r_load ti_57 rfl rfl (by simp only [loaded, mpc, mpn, if_true, ler, tks, tkz, tkn, dps, dpz, cap, nap, apn, lnc, lnn, zad, Nat.reduceAdd, adz]; rfl) (nb rfl))) ?_ | refine AL.go (OpR.plain rfl (r_loadp ti_57 rfl (by simp only [loaded, mpc, mpn, if_true, ler, tks, tkz, tkn, dps, dpz, cap, nap, apn, lnc, lnn, zad, Nat.reduceAdd, adz]; rfl) (nb rfl))) ?_
    refine AL.go (OpR.plain rfl (r_storeN ti_57 rfl rfl rfl rfl rfl (nb rfl) (by simp only [putAt, tks, tkz, tkn, dps, dpz, cap, nap, apn, lnc, lnn, zad, Nat.reduceAdd, adz]; rfl) (by rintro _ ⟨⟩))) ?_
    refine AL.nil ?_
    refine thenN ?_
    refine AW.ret ?_
    refine fin_id (.inr rfl) (ends_of rfl (.cell ti_57 rfl rfl (by simp only [loaded, if_true, ler, tks, tkz, tkn, dps, dpz, cap, nap, apn, lnc, lnn, zad, Nat.reduceAdd, adz]; rfl) .nil)) ?_ (.cons rfl (Ob.le_of_eq (by first | (simp_all [tableM, asM]; done) | (exfalso; simp_all; done))) .nil) rfl rfl rfl rfl
    simp only [retA]
    simp only [tableM, asM]
    first | (rw [if_pos (Or.inl (by assumption))]; exact A.le_agg (.cons (by first | exact C.le_refl _ | exact C.le_nil) (.cons (by first | exact C.le_refl _ | exact C.le_nil) (.cons (by first | exact C.le_refl _ | exact C.le_nil) (.cons (by first | exact C.le_refl _ | exact C.le_nil) (.cons (by first | exact C.le_refl _ | exact C.le_nil) (.cons (by first | exact C.le_refl _ | exact C.le_nil) (.cons (by first | exact C.le_refl _ | exact C.le_nil) (.cons (by first | exact C.le_refl _ | exact C.le_nil) (.cons (by first | exact C.le_refl _ | exact C.le_nil) (.cons (by first | exact C.le_refl _ | exact C.le_nil) (.cons (by first | exact C.le_refl _ | exact C.le_nil) (.cons (by first | exact C.le_refl _ | exact C.le_nil) .nil))))))))))))) | (rw [if_pos (Or.inr (by assumption))]; exact A.le_agg (.cons (by first | exact C.le_refl _ | exact C.le_nil) (.cons (by first | exact C.le_refl _ | exact C.le_nil) (.cons (by first | exact C.le_refl _ | exact C.le_nil) (.cons (by first | exact C.le_refl _ | exact C.le_nil) (.cons (by first | exact C.le_refl _ | exact C.le_nil) (.cons (by first | exact C.le_refl _ | exact C.le_nil) (.cons (by first | exact C.le_refl _ | exact C.le_nil) (.cons (by first | exact C.le_refl _ | exact C.le_nil) (.cons (by first | exact C.le_refl _ | exact C.le_nil) (.cons (by first | exact C.le_refl _ | exact C.le_nil) (.cons (by first | exact C.le_refl _ | exact C.le_nil) (.cons (by first | exact C.le_refl _ | exact C.le_nil) .nil))))))))))))) | (rw [if_neg (by simp_all)]; exact A.le_agg (.cons (by first | exact C.le_refl _ | exact C.le_nil) (.cons (by first | exact C.le_refl _ | exact C.le_nil) (.cons (by first | exact C.le_refl _ | exact C.le_nil) (.cons (by first | exact C.le_refl _ | exact C.le_nil) (.cons (by first | exact C.le_refl _ | exact C.le_nil) (.cons (by first | exact C.le_refl _ | exact C.le_nil) (.cons (by first | exact C.le_refl _ | exact C.le_nil) (.cons (by first | exact C.le_refl _ | exact C.le_nil) (.cons (by first | exact C.le_refl _ | exact C.le_nil) (.cons (by first | exact C.le_refl _ | exact C.le_nil) (.cons (by first | exact C.le_refl _ | exact C.le_nil) (.cons (by first | exact C.le_refl _ | exact C.le_nil) .nil)))))))))))))
  · have h1n := h1; try simp only [dtt, dff, bqi, bqf, bni, bnf, nt1, nf1, nt0, nf0, ne_eq, ilt, ile] at h1n
    refine AL.go (OpR.onb rfl rfl (nb rfl) rfl (h1) (r_move rfl (nb rfl) (by rintro _ ⟨⟩))) ?_
    refine AL.go (OpR.onb rfl rfl (nb rfl) rfl (h1) (r_callId (tok_s _ (Good.ok (by repeat' (first | assumption | apply Good.take | apply Good.must | apply Good.name | apply Good.fail4 | apply Good.orM)))) en_48 rfl rfl rfl rfl (.cons (A.le_refl _) .nil) rfl (.cons rfl .nil) rfl rfl rfl (nb rfl))) ?_
    refine AL.go (OpR.onb rfl rfl (nb rfl) rfl (h1) (r_field fo_71_0 rfl (by first | rfl | (simp only [fieldA, loaded, tks, tkz, tkn, dps, dpz, cap, nap, apn, lnc, lnn, zad, Nat.reduceAdd, adz]; rfl)) (nb rfl))) ?_
    refine AL.go (OpR.onb rfl rfl (nb rfl) rfl (h1) (r_bin rfl rfl (nb rfl) rfl (run_int_eql _ _ _))) ?_
    refine AL.go (OpR.plain rfl (r_pickFb rfl (h1) rfl (nb rfl) (by rintro _ ⟨⟩))) ?_
    refine AL.nil ?_
    refine thenN ?_
    refine AW.condb rfl (fun h2 => ?_) (fun h2 => ?_)
    · have h2n := h2; try simp only [dtt, dff, bqi, bqf, bni, bnf, nt1, nf1, nt0, nf0, ne_eq, ilt, ile] at h2n
      refine AW.region ?_
      refine AL.go (OpR.plain rfl (r_move rfl (nb rfl) (by rintro _ ⟨⟩))) ?_
      refine AL.go (OpR.plain rfl (r_callId (name_s _ (Good.ok (by repeat' (first | assumption | apply Good.take | apply Good.must | apply Good.name | apply Good.fail4 | apply Good.orM)))) en_59 rfl rfl rfl rfl (.cons (A.le_refl _) .nil) rfl (.cons rfl .nil) rfl rfl rfl (nb rfl))) ?_
      first | refine AL.go (OpR.plain rfl (r_fieldAddr fo_57_2 (by decide) rfl (nb rfl))) ?_ | refine AL.go (OpR.plain rfl (r_fieldAddrp fo_57_2 (by decide) rfl (nb rfl))) ?_
      refine AL.go (OpR.plain rfl (r_storeN ti_9 rfl rfl rfl rfl rfl (nb rfl) (by simp only [putAt, tks, tkz, tkn, dps, dpz, cap, nap, apn, lnc, lnn, zad, Nat.reduceAdd, adz]; rfl) (by rintro _ ⟨⟩))) ?_
      refine AL.nil ?_
      refine thenN ?_
      refine AW.seq ?_
      refine AW.region ?_
      first | refine AL.go (OpR.plain rfl (r_load ti_57 rfl rfl (by simp only [loaded, mpc, mpn, if_true, ler, tks, tkz, tkn, dps, dpz, cap, nap, apn, lnc, lnn, zad, Nat.reduceAdd, adz]; rfl) (nb rfl))) ?_ | refine AL.go (OpR.plain rfl (r_loadp ti_57 rfl (by simp only [loaded, mpc, mpn, if_true, ler, tks, tkz, tkn, dps, dpz, cap, nap, apn, lnc, lnn, zad, Nat.reduceAdd, adz]; rfl) (nb rfl))) ?_
      refine AL.go (OpR.plain rfl (r_storeN ti_57 rfl rfl rfl rfl rfl (nb rfl) (by simp only [putAt, tks, tkz, tkn, dps, dpz, cap, nap, apn, lnc, lnn, zad, Nat.reduceAdd, adz]; rfl) (by rintro _ ⟨⟩))) ?_
      refine AL.nil ?_
      refine thenN ?_
      refine AW.ret ?_
      refine fin_id (.inr rfl) (ends_of rfl (.cell ti_57 rfl rfl (by simp only [loaded, if_true, ler, tks, tkz, tkn, dps, dpz, cap, nap, apn, lnc, lnn, zad, Nat.reduceAdd, adz]; rfl) .nil)) ?_ (.cons rfl (Ob.le_of_eq (by first | (simp_all [tableM, asM]; done) | (exfalso; simp_all; done))) .nil) rfl rfl rfl rfl
      simp only [retA]
      simp only [tableM, asM]
      first | (rw [if_pos (Or.inl (by assumption))]; exact A.le_agg (.cons (by first | exact C.le_refl _ | exact C.le_nil) (.cons (by first | exact C.le_refl _ | exact C.le_nil) (.cons (by first | exact C.le_refl _ | exact C.le_nil) (.cons (by first | exact C.le_refl _ | exact C.le_nil) (.cons (by first | exact C.le_refl _ | exact C.le_nil) (.cons (by first | exact C.le_refl _ | exact C.le_nil) (.cons (by first | exact C.le_refl _ | exact C.le_nil) (.cons (by first | exact C.le_refl _ | exact C.le_nil) (.cons (by first | exact C.le_refl _ | exact C.le_nil) (.cons (by first | exact C.le_refl _ | exact C.le_nil) (.cons (by first | exact C.le_refl _ | exact C.le_nil) (.cons (by first | exact C.le_refl _ | exact C.le_nil) .nil))))))))))))) | (rw [if_pos (Or.inr (by assumption))]; exact A.le_agg (.cons (by first | exact C.le_refl _ | exact C.le_nil) (.cons (by first | exact C.le_refl _ | exact C.le_nil) (.cons (by first | exact C.le_refl _ | exact C.le_nil) (.cons (by first | exact C.le_refl _ | exact C.le_nil) (.cons (by first | exact C.le_refl _ | exact C.le_nil) (.cons (by first | exact C.le_refl _ | exact C.le_nil) (.cons (by first | exact C.le_refl _ | exact C.le_nil) (.cons (by first | exact C.le_refl _ | exact C.le_nil) (.cons (by first | exact C.le_refl _ | exact C.le_nil) (.cons (by first | exact C.le_refl _ | exact C.le_nil) (.cons (by first | exact C.le_refl _ | exact C.le_nil) (.cons (by first | exact C.le_refl _ | exact C.le_nil) .nil))))))))))))) | (rw [if_neg (by simp_all)]; exact A.le_agg (.cons (by first | exact C.le_refl _ | exact C.le_nil) (.cons (by first | exact C.le_refl _ | exact C.le_nil) (.cons (by first | exact C.le_refl _ | exact C.le_nil) (.cons (by first | exact C.le_refl _ | exact C.le_nil) (.cons (by first | exact C.le_refl _ | exact C.le_nil) (.cons (by first | exact C.le_refl _ | exact C.le_nil) (.cons (by first | exact C.le_refl _ | exact C.le_nil) (.cons (by first | exact C.le_refl _ | exact C.le_nil) (.cons (by first | exact C.le_refl _ | exact C.le_nil) (.cons (by first | exact C.le_refl _ | exact C.le_nil) (.cons (by first | exact C.le_refl _ | exact C.le_nil) (.cons (by first | exact C.le_refl _ | exact C.le_nil) .nil)))))))))))))
    · have h2n := h2; try simp only [dtt, dff, bqi, bqf, bni, bnf, nt1, nf1, nt0, nf0, ne_eq, ilt, ile] at h2n
      refine AW.skip ?_
      refine thenN ?_
      refine AW.seq ?_
      refine AW.region ?_
      first | refine AL.go (OpR.plain rfl (r_load ti_57 rfl rfl (by simp only [loaded, mpc, mpn, if_true, ler, tks, tkz, tkn, dps, dpz, cap, nap, apn, lnc, lnn, zad, Nat.reduceAdd, adz]; rfl) (nb rfl))) ?_ | refine AL.go (OpR.plain rfl (r_loadp ti_57 rfl (by simp only [loaded, mpc, mpn, if_true, ler, tks, tkz, tkn, dps, dpz, cap, nap, apn, lnc, lnn, zad, Nat.reduceAdd, adz]; rfl) (nb rfl))) ?_
      refine AL.go (OpR.plain rfl (r_storeN ti_57 rfl rfl rfl rfl rfl (nb rfl) (by simp only [putAt, tks, tkz, tkn, dps, dpz, cap, nap, apn, lnc, lnn, zad, Nat.reduceAdd, adz]; rfl) (by rintro _ ⟨⟩))) ?_
      refine AL.nil ?_
      refine thenN ?_
      refine AW.ret ?_
      refine fin_id (.inr rfl) (ends_of rfl (.cell ti_57 rfl rfl (by simp only [loaded, if_true, ler, tks, tkz, tkn, dps, dpz, cap, nap, apn, lnc, lnn, zad, Nat.reduceAdd, adz]; rfl) .nil)) ?_ (.cons rfl (Ob.le_of_eq (by first | (simp_all [tableM, asM]; done) | (exfalso; simp_all; done))) .nil) rfl rfl rfl rfl
      simp only [retA]
      simp only [tableM, asM]
      first | (rw [if_pos (Or.inl (by assumption))]; exact A.le_agg (.cons (by first | exact C.le_refl _ | exact C.le_nil) (.cons (by first | exact C.le_refl _ | exact C.le_nil) (.cons (by first | exact C.le_refl _ | exact C.le_nil) (.cons (by first | exact C.le_refl _ | exact C.le_nil) (.cons (by first | exact C.le_refl _ | exact C.le_nil) (.cons (by first | exact C.le_refl _ | exact C.le_nil) (.cons (by first | exact C.le_refl _ | exact C.le_nil) (.cons (by first | exact C.le_refl _ | exact C.le_nil) (.cons (by first | exact C.le_refl _ | exact C.le_nil) (.cons (by first | exact C.le_refl _ | exact C.le_nil) (.cons (by first | exact C.le_refl _ | exact C.le_nil) (.cons (by first | exact C.le_refl _ | exact C.le_nil) .nil))))))))))))) | (rw [if_pos (Or.inr (by assumption))]; exact A.le_agg (.cons (by first | exact C.le_refl _ | exact C.le_nil) (.cons (by first | exact C.le_refl _ | exact C.le_nil) (.cons (by first | exact C.le_refl _ | exact C.le_nil) (.cons (by first | exact C.le_refl _ | exact C.le_nil) (.cons (by first | exact C.le_refl _ | exact C.le_nil) (.cons (by first | exact C.le_refl _ | exact C.le_nil) (.cons (by first | exact C.le_refl _ | exact C.le_nil) (.cons (by first | exact C.le_refl _ | exact C.le_nil) (.cons (by first | exact C.le_refl _ | exact C.le_nil) (.cons (by first | exact C.le_refl _ | exact C.le_nil) (.cons (by first | exact C.le_refl _ | exact C.le_nil) (.cons (by first | exact C.le_refl _ | exact C.le_nil) .nil))))))))))))) | (rw [if_neg (by simp_all)]; exact A.le_agg (.cons (by first | exact C.le_refl _ | exact C.le_nil) (.cons (by first | exact C.le_refl _ | exact C.le_nil) (.cons (by first | exact C.le_refl _ | exact C.le_nil) (.cons (by first | exact C.le_refl _ | exact C.le_nil) (.cons (by first | exact C.le_refl _ | exact C.le_nil) (.cons (by first | exact C.le_refl _ | exact C.le_nil) (.cons (by first | exact C.le_refl _ | exact C.le_nil) (.cons (by first | exact C.le_refl _ | exact C.le_nil) (.cons (by first | exact C.le_refl _ | exact C.le_nil) (.cons (by first | exact C.le_refl _ | exact C.le_nil) (.cons (by first | exact C.le_refl _ | exact C.le_nil) (.cons (by first | exact C.le_refl _ | exact C.le_nil) .nil)))))))))))))

end Go.Par

namespace Go.Par
open Go Go.Am Go.Proofs Go.RowKit
set_option linter.unusedVariables false
set_option linter.unusedSimpArgs false

/-- So many at most. -/
def limM (most k : Nat) (q : Pst) : Pst := if most < k then q.fail 4 else q
theorem lim_t {most k : Nat} {q : Pst} (h : most < k) : limM most k q = q.fail 4 := if_pos h
theorem lim_f {most k : Nat} {q : Pst} (h : ¬ most < k) : limM most k q = q := if_neg h
theorem lim_keeps {most k : Nat} {q : Pst} (h : Good q) : Keeps q (limM most k q) := by
  unfold limM
  split
  · exact (keeps_fail h 4 (by decide)).1
  · exact Keeps.refl h
def lstM (part : Pst → Ex × Pst) (most : Nat) : Nat → Pst → List Ex → List Ex × Pst
  | 0, p, l => (l, p)
  | n + 1, p, l => if p.e = 0 then
      (if (limM most (l.length + 1) (part p).2).is bComma = true then lstM part most n ((limM most (l.length + 1) (part p).2).take bComma) (l ++ [(part p).1])
       else (l ++ [(part p).1], (limM most (l.length + 1) (part p).2).take bComma))
    else (l, p)
structure LsI (part : Pst → Ex × Pst) (most : Nat) (p0 p : Pst) (l : List Ex) (m : Nat) : Prop where
  good : Good p
  v : lstM part most 1001 p0 [] = lstM part most m p l
  lt : p.l.length - p.at_ < m
  len : l.length + m = 1001
theorem LsI.start {part : Pst → Ex × Pst} {most : Nat} {p : Pst} (h : Good p) : LsI part most p p [] 1001 := ⟨h, rfl, by have := h.ok.len; omega, rfl⟩
theorem LsI.err {part : Pst → Ex × Pst} {most m : Nat} {p0 p : Pst} {l : List Ex} (h : LsI part most p0 p l m) (he : ¬ p.e = 0) : lstM part most 1001 p0 [] = (l, p) := by
  obtain ⟨k, rfl⟩ : ∃ k, m = k + 1 := ⟨m - 1, by have := h.lt; omega⟩
  rw [h.v, lstM, if_neg he]
theorem LsI.brk {part : Pst → Ex × Pst} {most m : Nat} {p0 p : Pst} {l : List Ex} (h : LsI part most p0 p l m) (he : p.e = 0) (hn : (limM most (l.length + 1) (part p).2).is bComma = false) : lstM part most 1001 p0 [] = (l ++ [(part p).1], (limM most (l.length + 1) (part p).2).take bComma) := by
  obtain ⟨k, rfl⟩ : ∃ k, m = k + 1 := ⟨m - 1, by have := h.lt; omega⟩
  rw [h.v, lstM, if_pos he, if_neg (by rw [hn]; decide)]
theorem LsI.next {part : Pst → Ex × Pst} {most m : Nat} {p0 p : Pst} {l : List Ex} (hk : ∀ q, Good q → Keeps q (part q).2) (h : LsI part most p0 p l m) (he : p.e = 0) (hs : (limM most (l.length + 1) (part p).2).is bComma = true) :
    LsI part most p0 ((limM most (l.length + 1) (part p).2).take bComma) (l ++ [(part p).1]) (m - 1) := by
  have k1 := hk p h.good
  have k2 := k1.trans (lim_keeps (most := most) (k := l.length + 1) k1.good)
  have hlt := Pst.is_lt hs
  have hm := h.lt
  have ha := k2.at_
  refine ⟨k2.good.take _, ?_, ?_, by have := h.len; simp only [List.length_append, lnc, lnn]; omega⟩
  · obtain ⟨k, rfl⟩ : ∃ k, m = k + 1 := ⟨m - 1, by omega⟩
    rw [h.v, lstM, if_pos he, if_pos hs]; rfl
  · rw [take_t hs]
    show (limM most (l.length + 1) (part p).2).l.length - ((limM most (l.length + 1) (part p).2).at_ + 1) < m - 1
    rw [k2.l] at hlt ⊢
    omega
theorem rows_snoc (l : List Ex) (x : Ex) : Ex.rows (l ++ [x]) = Ex.rows l ++ [x.row] := by simp [rows_map]
theorem lstM_keeps {part : Pst → Ex × Pst} {most : Nat} (hk : ∀ q, Good q → Keeps q (part q).2) : ∀ (n : Nat) (p : Pst) (l : List Ex), Good p → Keeps p (lstM part most n p l).2
  | 0, p, l, h => Keeps.refl h
  | n + 1, p, l, h => by
    rw [lstM]
    have k1 := hk p h
    have k2 := k1.trans (lim_keeps (most := most) (k := l.length + 1) k1.good)
    have k3 := k2.trans (keeps_take k2.good bComma)
    split
    · split
      · exact k3.trans (lstM_keeps hk n _ _ k3.good)
      · exact k3
    · exact Keeps.refl h


set_option maxHeartbeats 2000000 in
theorem list_q (f : FuncId) (part : Pst → Ex × Pst) (most : Nat) (p : Pst) (hg : Good p) (hent : enters Tryd.prog f = true) (hk : ∀ q, Good q → Keeps q (part q).2)
    (hpart : ∀ q, Good q → Am.Spec Tryd.prog f [A.c (.ref 0 0)] [(0, pbox q)] (exA (part q).1) [(0, pbox (part q).2)]) : Am.Spec Tryd.prog 39 [A.c (.ref 0 0), A.c (.clo (.func f) [.ref 0 0] []), A.i64 (most : Int)] [(0, pbox p)] (A.c (.d (.sl false (Ex.rows (lstM part most 1001 p []).1)))) [(0, pbox (lstM part most 1001 p []).2)] := by
  refine spec_ofN (n := 25) Tryd.func39 rfl rfl (nb rfl) ?_
  show AW _ _ (⟨[(0, A.c (.ref 0 0)), (1, A.c (.clo (.func f) [.ref 0 0] [])), (2, A.i64 (most : Int))], [(0, pbox p)], []⟩ : St) _
  refine AW.seq ?_
  refine AW.region ?_
  refine AL.go (OpR.plain rfl (r_assign rfl (nb rfl) (by rintro _ ⟨⟩; rfl))) ?_
  refine AL.nil ?_
  refine thenN ?_
  refine AW.seq ?_
  refine AW.region ?_
  refine AL.go (OpR.plain rfl (r_assign rfl (nb rfl) (by rintro _ ⟨⟩; rfl))) ?_
  refine AL.nil ?_
  refine thenN ?_
  refine AW.seq ?_
  refine AW.block ?_
  refine AW.nilOwn 7 50 9 27 rfl rfl ?_
  refine AW.loop (ι := { x : Pst × List Ex × Nat // LsI part most p x.1 x.2.1 x.2.2 }) (fun x => ⟨[(0, A.c (.ref 0 0)), (1, A.c (.clo (.func f) [.ref 0 0] [])), (2, A.i64 (most : Int)), (7, A.c (.own 50 (Ex.rows x.1.2.1)))], [(0, pbox x.1.1), (50, .perm 9 27)], []⟩) (fun x => x.1.2.2) ⟨(p, [], 1001), LsI.start hg⟩ (weakens_id (.cons rfl (A.le_of_eq (by first | rfl | (simp [A.ren, C.ren, renOf, lk]; done) | (simp [A.ren, C.ren, renOf, lk]; omega) | omega)) (.cons rfl (A.le_of_eq (by first | rfl | (simp [A.ren, C.ren, renOf, lk]; done) | (simp [A.ren, C.ren, renOf, lk]; omega) | omega)) (.cons rfl (A.le_of_eq (by first | rfl | (simp [A.ren, C.ren, renOf, lk]; done) | (simp [A.ren, C.ren, renOf, lk]; omega) | omega)) (.cons rfl (A.le_of_eq (by first | rfl | (simp [A.ren, C.ren, renOf, lk]; done) | (simp [A.ren, C.ren, renOf, lk]; omega) | omega)) .nil)))) (.cons rfl (Ob.le_refl _) (.cons rfl (Ob.le_refl _) .nil)) rfl rfl rfl rfl) ?_
  rintro ⟨⟨pP, lL, mM⟩, hI⟩
  simp only at hI
  have hIl := hI.len; have hIt := hI.lt
  show AW _ _ (⟨[(0, A.c (.ref 0 0)), (1, A.c (.clo (.func f) [.ref 0 0] [])), (2, A.i64 (most : Int)), (7, A.c (.own 50 (Ex.rows lL)))], [(0, pbox pP), (50, .perm 9 27)], []⟩ : St) _
  refine AW.seq ?_
  refine AW.seq ?_
  refine AW.region ?_
  refine AL.go (OpR.plain rfl (r_move rfl (nb rfl) (by rintro _ ⟨⟩))) ?_
  refine AL.go (OpR.plain rfl (r_callId (ok_s _) en_25 rfl rfl rfl rfl (.cons (A.le_refl _) .nil) rfl (.cons rfl .nil) rfl rfl rfl (nb rfl))) ?_
  refine AL.nil ?_
  refine thenN ?_
  refine AW.condb rfl (fun h1 => ?_) (fun h1 => ?_)
  · have h1n := h1; try simp only [dtt, dff, bqi, bqf, bni, bnf, nt1, nf1, nt0, nf0, ne_eq, ilt, ile, rows_length, List.length_append, lnc, lnn, zad, Int.toNat_natCast] at h1n
    refine AW.skip ?_
    refine thenN ?_
    refine AW.block ?_
    refine AW.seq ?_
    refine AW.region ?_
    refine AL.go (OpR.plain rfl (r_move rfl (nb rfl) (by rintro _ ⟨⟩))) ?_
    refine AL.go (OpR.plain rfl (r_move rfl (nb rfl) (by rintro _ ⟨⟩))) ?_
    refine AL.go (OpR.plain rfl (r_callId (hpart pP hI.good) hent rfl rfl rfl rfl (.cons (A.le_refl _) .nil) rfl (.cons rfl .nil) rfl rfl rfl (nb rfl))) ?_
    refine AL.go (OpR.plain rfl (r_buildSlice un_25 ti_27 rfl rfl rfl rfl rfl (by decide) (by decide) rfl (nb rfl))) ?_
    first | refine AL.go (OpR.plain rfl (r_append 102 un_25 ti_27 rfl rfl rfl rfl (by first | exact .sl | exact .own | exact .nil) rfl (by first | exact rows_len | (intro r hr; simp at hr; subst hr; rfl)) (by first | exact rows_len | (intro r hr; simp at hr; subst hr; rfl)) rfl (by simp [maxLen, rows_length]; omega) (by simp [maxLen, rows_length]; omega) (nb rfl))) ?_ | refine AL.go (OpR.plain rfl (r_appendNil 101 102 un_25 ti_27 rfl rfl rfl (by first | exact .sl | exact .own | exact .nil) rfl (by first | exact rows_len | (intro r hr; simp at hr; subst hr; rfl)) rfl rfl (by decide) (by simp [maxLen, rows_length]; omega) (by simp [maxLen, rows_length]; omega) (nb rfl))) ?_
    refine AL.go (OpR.plain rfl (r_assign rfl (nb rfl) (by rintro _ ⟨⟩))) ?_
    refine AL.nil ?_
    refine thenN ?_
    refine AW.seq ?_
    refine AW.seq ?_
    refine AW.region ?_
    refine AL.go (OpR.plain rfl (r_move rfl (nb rfl) (by rintro _ ⟨⟩))) ?_
    refine AL.go (OpR.plain rfl (r_len un_25 rfl (by first | exact .sl | exact .own | exact .row | exact .nil) (by intro _ h; cases h) (nb rfl) (by rintro _ ⟨⟩))) ?_
    refine AL.go (OpR.plain rfl (r_move rfl (nb rfl) (by rintro _ ⟨⟩))) ?_
    refine AL.go (OpR.plain rfl (r_bin rfl rfl (nb rfl) rfl (run_int_gtr _ _ _))) ?_
    refine AL.nil ?_
    refine thenN ?_
    refine AW.condb rfl (fun h2 => ?_) (fun h2 => ?_)
    · have h2n := h2; try simp only [dtt, dff, bqi, bqf, bni, bnf, nt1, nf1, nt0, nf0, ne_eq, ilt, ile, rows_length, List.length_append, lnc, lnn, zad, Int.toNat_natCast] at h2n
      refine AW.region ?_
      refine AL.go (OpR.plain rfl (r_move rfl (nb rfl) (by rintro _ ⟨⟩))) ?_
      refine AL.go (OpR.plain rfl (r_callId (fail_s _ _) en_49 rfl rfl rfl rfl (.cons (A.le_refl _) (.cons (A.le_refl _) .nil)) rfl (.cons rfl .nil) rfl rfl rfl (nb rfl))) ?_
      refine AL.nil ?_
      refine thenN ?_
      refine AW.seq ?_
      refine AW.region ?_
      refine AL.go (OpR.plain rfl (r_move rfl (nb rfl) (by rintro _ ⟨⟩))) ?_
      refine AL.go (OpR.plain rfl (r_callId (take_s _ (Good.ok (by first | exact (hk _ hI.good).good | exact (hk _ hI.good).good.fail4)) _) en_42 rfl rfl rfl rfl (.cons (A.le_refl _) (.cons (A.le_refl _) .nil)) rfl (.cons rfl .nil) rfl rfl rfl (nb rfl))) ?_
      refine AL.go (OpR.plain rfl (r_not rfl (nb rfl))) ?_
      refine AL.nil ?_
      refine thenN ?_
      refine AW.condb rfl (fun h3 => ?_) (fun h3 => ?_)
      · have h3n := h3; try simp only [dtt, dff, bqi, bqf, bni, bnf, nt1, nf1, nt0, nf0, ne_eq, ilt, ile, rows_length, List.length_append, lnc, lnn, zad, Int.toNat_natCast] at h3n
        refine AW.exit ?_
        refine inbX (by decide) ?_
        refine thenX ?_
        refine inbE ?_
        refine thenN ?_
        refine AW.seq ?_
        refine AW.region ?_
        refine AL.go (OpR.plain rfl (r_move rfl (nb rfl) (by rintro _ ⟨⟩))) ?_
        refine AL.go (OpR.plain rfl (r_assign rfl (nb rfl) (by rintro _ ⟨⟩))) ?_
        refine AL.nil ?_
        refine thenN ?_
        refine AW.ret ?_
        refine fin_id (.inr rfl) (ends_of rfl (.tmp rfl .nil)) ?_ (.cons rfl (Ob.le_of_eq (by first | rw [hI.err (by assumption)] | (rw [hI.brk (by assumption) (by first | (rw [lim_t (by omega)]; assumption) | (rw [lim_f (by omega)]; assumption))]; first | (rw [lim_t (by omega)]; done) | (rw [lim_f (by omega)]; done)))) .nil) rfl rfl rfl rfl
        simp only [retA]
        first | (rw [hI.err (by assumption)]; exact A.le_own) | (rw [hI.brk (by assumption) (by first | (rw [lim_t (by omega)]; assumption) | (rw [lim_f (by omega)]; assumption))]; exact A.le_trans A.le_own (A.le_of_eq (by simp [rows_snoc, Ex.row_eq])))
      · have h3n := h3; try simp only [dtt, dff, bqi, bqf, bni, bnf, nt1, nf1, nt0, nf0, ne_eq, ilt, ile, rows_length, List.length_append, lnc, lnn, zad, Int.toNat_natCast] at h3n
        refine AW.skip ?_
        refine inbN ?_
        refine thenN ?_
        have he : pP.e = 0 := by assumption
        have hs : (limM most (lL.length + 1) (part pP).2).is bComma = true := by
          first | (rw [lim_t (by omega)]; assumption) | (rw [lim_f (by omega)]; assumption)
        refine ⟨⟨((limM most (lL.length + 1) (part pP).2).take bComma, lL ++ [(part pP).1], mM - 1), hI.next hk he hs⟩, by have := hI.lt; simp only; omega, weakens_ren [(50, 102)] (.cons rfl (A.le_of_eq (by first | rfl | (simp [A.ren, C.ren, renOf, lk]; done) | (simp [A.ren, C.ren, renOf, lk]; omega) | omega)) (.cons rfl (A.le_of_eq (by first | rfl | (simp [A.ren, C.ren, renOf, lk]; done) | (simp [A.ren, C.ren, renOf, lk]; omega) | omega)) (.cons rfl (A.le_of_eq (by first | rfl | (simp [A.ren, C.ren, renOf, lk]; done) | (simp [A.ren, C.ren, renOf, lk]; omega) | omega)) (.cons rfl (A.le_of_eq (by simp [rows_snoc, Ex.row_eq, A.ren, C.ren, renOf, lk])) .nil)))) (.cons rfl (Ob.le_of_eq (by first | exact congrArg (fun z => pbox (Pst.take z bComma)) (lim_t (most := most) (k := lL.length + 1) (q := (part pP).2) (by omega)).symm | exact congrArg (fun z => pbox (Pst.take z bComma)) (lim_f (most := most) (k := lL.length + 1) (q := (part pP).2) (by omega)).symm)) (.cons rfl (Ob.le_refl _) .nil)) rfl rfl rfl rfl rfl rfl⟩
    · have h2n := h2; try simp only [dtt, dff, bqi, bqf, bni, bnf, nt1, nf1, nt0, nf0, ne_eq, ilt, ile, rows_length, List.length_append, lnc, lnn, zad, Int.toNat_natCast] at h2n
      refine AW.skip ?_
      refine thenN ?_
      refine AW.seq ?_
      refine AW.region ?_
      refine AL.go (OpR.plain rfl (r_move rfl (nb rfl) (by rintro _ ⟨⟩))) ?_
      refine AL.go (OpR.plain rfl (r_callId (take_s _ (Good.ok (by first | exact (hk _ hI.good).good | exact (hk _ hI.good).good.fail4)) _) en_42 rfl rfl rfl rfl (.cons (A.le_refl _) (.cons (A.le_refl _) .nil)) rfl (.cons rfl .nil) rfl rfl rfl (nb rfl))) ?_
      refine AL.go (OpR.plain rfl (r_not rfl (nb rfl))) ?_
      refine AL.nil ?_
      refine thenN ?_
      refine AW.condb rfl (fun h4 => ?_) (fun h4 => ?_)
      · have h4n := h4; try simp only [dtt, dff, bqi, bqf, bni, bnf, nt1, nf1, nt0, nf0, ne_eq, ilt, ile, rows_length, List.length_append, lnc, lnn, zad, Int.toNat_natCast] at h4n
        refine AW.exit ?_
        refine inbX (by decide) ?_
        refine thenX ?_
        refine inbE ?_
        refine thenN ?_
        refine AW.seq ?_
        refine AW.region ?_
        refine AL.go (OpR.plain rfl (r_move rfl (nb rfl) (by rintro _ ⟨⟩))) ?_
        refine AL.go (OpR.plain rfl (r_assign rfl (nb rfl) (by rintro _ ⟨⟩))) ?_
        refine AL.nil ?_
        refine thenN ?_
        refine AW.ret ?_
        refine fin_id (.inr rfl) (ends_of rfl (.tmp rfl .nil)) ?_ (.cons rfl (Ob.le_of_eq (by first | rw [hI.err (by assumption)] | (rw [hI.brk (by assumption) (by first | (rw [lim_t (by omega)]; assumption) | (rw [lim_f (by omega)]; assumption))]; first | (rw [lim_t (by omega)]; done) | (rw [lim_f (by omega)]; done)))) .nil) rfl rfl rfl rfl
        simp only [retA]
        first | (rw [hI.err (by assumption)]; exact A.le_own) | (rw [hI.brk (by assumption) (by first | (rw [lim_t (by omega)]; assumption) | (rw [lim_f (by omega)]; assumption))]; exact A.le_trans A.le_own (A.le_of_eq (by simp [rows_snoc, Ex.row_eq])))
      · have h4n := h4; try simp only [dtt, dff, bqi, bqf, bni, bnf, nt1, nf1, nt0, nf0, ne_eq, ilt, ile, rows_length, List.length_append, lnc, lnn, zad, Int.toNat_natCast] at h4n
        refine AW.skip ?_
        refine inbN ?_
        refine thenN ?_
        have he : pP.e = 0 := by assumption
        have hs : (limM most (lL.length + 1) (part pP).2).is bComma = true := by
          first | (rw [lim_t (by omega)]; assumption) | (rw [lim_f (by omega)]; assumption)
        refine ⟨⟨((limM most (lL.length + 1) (part pP).2).take bComma, lL ++ [(part pP).1], mM - 1), hI.next hk he hs⟩, by have := hI.lt; simp only; omega, weakens_ren [(50, 102)] (.cons rfl (A.le_of_eq (by first | rfl | (simp [A.ren, C.ren, renOf, lk]; done) | (simp [A.ren, C.ren, renOf, lk]; omega) | omega)) (.cons rfl (A.le_of_eq (by first | rfl | (simp [A.ren, C.ren, renOf, lk]; done) | (simp [A.ren, C.ren, renOf, lk]; omega) | omega)) (.cons rfl (A.le_of_eq (by first | rfl | (simp [A.ren, C.ren, renOf, lk]; done) | (simp [A.ren, C.ren, renOf, lk]; omega) | omega)) (.cons rfl (A.le_of_eq (by simp [rows_snoc, Ex.row_eq, A.ren, C.ren, renOf, lk])) .nil)))) (.cons rfl (Ob.le_of_eq (by first | exact congrArg (fun z => pbox (Pst.take z bComma)) (lim_t (most := most) (k := lL.length + 1) (q := (part pP).2) (by omega)).symm | exact congrArg (fun z => pbox (Pst.take z bComma)) (lim_f (most := most) (k := lL.length + 1) (q := (part pP).2) (by omega)).symm)) (.cons rfl (Ob.le_refl _) .nil)) rfl rfl rfl rfl rfl rfl⟩
  · have h1n := h1; try simp only [dtt, dff, bqi, bqf, bni, bnf, nt1, nf1, nt0, nf0, ne_eq, ilt, ile, rows_length, List.length_append, lnc, lnn, zad, Int.toNat_natCast] at h1n
    refine AW.exit ?_
    refine thenX ?_
    refine thenX ?_
    refine inbE ?_
    refine thenN ?_
    refine AW.seq ?_
    refine AW.region ?_
    refine AL.go (OpR.plain rfl (r_move rfl (nb rfl) (by rintro _ ⟨⟩))) ?_
    refine AL.go (OpR.plain rfl (r_assign rfl (nb rfl) (by rintro _ ⟨⟩))) ?_
    refine AL.nil ?_
    refine thenN ?_
    refine AW.ret ?_
    refine fin_id (.inr rfl) (ends_of rfl (.tmp rfl .nil)) ?_ (.cons rfl (Ob.le_of_eq (by first | rw [hI.err (by assumption)] | (rw [hI.brk (by assumption) (by first | (rw [lim_t (by omega)]; assumption) | (rw [lim_f (by omega)]; assumption))]; first | (rw [lim_t (by omega)]; done) | (rw [lim_f (by omega)]; done)))) .nil) rfl rfl rfl rfl
    simp only [retA]
    first | (rw [hI.err (by assumption)]; exact A.le_own) | (rw [hI.brk (by assumption) (by first | (rw [lim_t (by omega)]; assumption) | (rw [lim_f (by omega)]; assumption))]; exact A.le_trans A.le_own (A.le_of_eq (by simp [rows_snoc, Ex.row_eq])))

end Go.Par

namespace Go.Par
open Go Go.Am Go.Proofs Go.RowKit
set_option linter.unusedVariables false
set_option linter.unusedSimpArgs false

/-- A further table: its join, the rest. -/
def frP (p : Pst) : Pst := if joinOf p.tok.text ≠ 1 then p.step.must bJoin else p.step
def frT (p : Pst) : Fr × Pst := tableM (joinOf p.tok.text) (frP p)
def frO (p : Pst) : Ex × Pst := orM ((frT p).2.must bOn)
def frX (p : Pst) : Fr := { (frT p).1 with on := (frO p).1 }
def frmL : Nat → Pst → List Fr → List Fr × Pst
  | 0, p, l => (l, p)
  | n + 1, p, l => if p.e = 0 then (if p.tok.kind ≠ 2 ∨ joinOf p.tok.text = 0 then (l, p) else frmL n (limM 8 (l.length + 1) (frO p).2) (l ++ [frX p])) else (l, p)
def frmM (p : Pst) : List Fr × Pst := frmL 1001 (tableM 0 p).2 [(tableM 0 p).1]
structure FmI (p0 p : Pst) (l : List Fr) (m : Nat) : Prop where
  good : Good p
  v : frmM p0 = frmL m p l
  lt : p.l.length - p.at_ < m
  len : l.length + m = 1002
theorem FmI.start {p : Pst} (h : Good p) : FmI p (tableM 0 p).2 [(tableM 0 p).1] 1001 := ⟨(tableM_keeps h).good, rfl, by have := (tableM_keeps (join := 0) h).good.ok.len; omega, rfl⟩
theorem FmI.err {m : Nat} {p0 p : Pst} {l : List Fr} (h : FmI p0 p l m) (he : ¬ p.e = 0) : frmM p0 = (l, p) := by
  obtain ⟨k, rfl⟩ : ∃ k, m = k + 1 := ⟨m - 1, by have := h.lt; omega⟩
  rw [h.v, frmL, if_neg he]
theorem FmI.brk {m : Nat} {p0 p : Pst} {l : List Fr} (h : FmI p0 p l m) (he : p.e = 0) (hb : p.tok.kind ≠ 2 ∨ joinOf p.tok.text = 0) : frmM p0 = (l, p) := by
  obtain ⟨k, rfl⟩ : ∃ k, m = k + 1 := ⟨m - 1, by have := h.lt; omega⟩
  rw [h.v, frmL, if_pos he, if_pos hb]
theorem fr_step {p : Pst} (h : Good p) (hk : p.tok.kind = 2) : Good p.step := (keeps_step h (Pst.tok_lt (by rw [hk]; decide)) (Pst.tok_e (by rw [hk]; decide))).good
theorem frP_keeps {p : Pst} (h : Good p) (hk : p.tok.kind = 2) : Keeps p.step (frP p) := by
  unfold frP
  split
  · exact (keeps_must (fr_step h hk) _).1
  · exact Keeps.refl (fr_step h hk)
theorem frO_keeps {p : Pst} (h : Good p) (hk : p.tok.kind = 2) : Keeps p.step (frO p).2 := by
  have k1 := frP_keeps h hk
  have k2 : Keeps p.step (frT p).2 := k1.trans (tableM_keeps k1.good)
  exact (k2.trans (keeps_must k2.good bOn).1).trans (orM_keeps (k2.good.must bOn))
theorem FmI.next {m : Nat} {p0 p : Pst} {l : List Fr} (h : FmI p0 p l m) (he : p.e = 0) (hk : p.tok.kind = 2) (hj : ¬ joinOf p.tok.text = 0) : FmI p0 (limM 8 (l.length + 1) (frO p).2) (l ++ [frX p]) (m - 1) := by
  have k1 := frO_keeps h.good hk
  have k2 := k1.trans (lim_keeps (most := 8) (k := l.length + 1) k1.good)
  have hlt := Pst.tok_lt (p := p) (by rw [hk]; decide)
  have hm := h.lt
  have ha := k2.at_
  have hl := k2.l
  have e1 : p.step.at_ = p.at_ + 1 := rfl
  have e2 : p.step.l = p.l := rfl
  refine ⟨k2.good, ?_, ?_, by have := h.len; simp only [List.length_append, lnc, lnn]; omega⟩
  · obtain ⟨k, rfl⟩ : ∃ k, m = k + 1 := ⟨m - 1, by omega⟩
    rw [h.v, frmL, if_pos he, if_neg (by rintro (hh | hh); exact hh hk; exact hj hh)]; rfl
  · rw [hl, e2]
    omega
theorem frmL_keeps : ∀ (n : Nat) (p : Pst) (l : List Fr), Good p → Keeps p (frmL n p l).2
  | 0, p, l, h => Keeps.refl h
  | n + 1, p, l, h => by
    rw [frmL]
    split
    · rename_i he
      split
      · exact Keeps.refl h
      · rename_i hb
        have hk : p.tok.kind = 2 := Classical.byContradiction fun hh => hb (.inl hh)
        have k0 := keeps_step h (Pst.tok_lt (p := p) (by rw [hk]; decide)) he
        have k1 := k0.trans (frO_keeps h hk)
        have k2 := k1.trans (lim_keeps (most := 8) (k := l.length + 1) k1.good)
        exact k2.trans (frmL_keeps n _ _ k2.good)
    · exact Keeps.refl h
theorem frmM_keeps {p : Pst} (h : Good p) : Keeps p (frmM p).2 := (tableM_keeps h).trans (frmL_keeps _ _ _ (tableM_keeps h).good)
theorem frP_t {p : Pst} (h : ¬ joinOf p.tok.text = 1) : frP p = p.step.must bJoin := if_pos h
theorem frP_f {p : Pst} (h : joinOf p.tok.text = 1) : frP p = p.step := if_neg (fun hh => hh h)

theorem en_56 : enters Tryd.prog 56 = true := by kernel_rfl
theorem en_57 : enters Tryd.prog 57 = true := by kernel_rfl

set_option maxHeartbeats 4000000 in
theorem from_q (p : Pst) (hg : Good p) : Am.Spec Tryd.prog 41 [A.c (.ref 0 0)] [(0, pbox p)] (A.c (.d (.sl false (frRows (frmM p).1)))) [(0, pbox (frmM p).2)] := by
  refine spec_ofN (n := 53) Tryd.func41 rfl rfl (nb rfl) ?_
  show AW _ _ (⟨[(0, A.c (.ref 0 0))], [(0, pbox p)], []⟩ : St) _
  refine AW.seq ?_
  refine AW.region ?_
  refine AL.go (OpR.plain rfl (r_assign rfl (nb rfl) (by rintro _ ⟨⟩; rfl))) ?_
  refine AL.nil ?_
  refine thenN ?_
  refine AW.seq ?_
  refine AW.region ?_
  refine AL.go (OpR.plain rfl (r_move rfl (nb rfl) (by rintro _ ⟨⟩))) ?_
  refine AL.go (OpR.plain rfl (r_callId (table_s p hg 0) en_56 rfl rfl rfl rfl (.cons (A.le_refl _) (.cons (A.le_refl _) .nil)) rfl (.cons rfl .nil) rfl rfl rfl (nb rfl))) ?_
  refine AL.go (OpR.plain rfl (r_buildOwnN 50 un_35 ti_57 rfl rfl rfl rfl rfl (by decide) (by decide) rfl (by simp) rfl (nb rfl))) ?_
  refine AL.go (OpR.plain rfl (r_assign rfl (nb rfl) (by rintro _ ⟨⟩))) ?_
  refine AL.nil ?_
  refine thenN ?_
  refine AW.seq ?_
  refine AW.block ?_
  refine AW.loop (ι := { x : Pst × List Fr × Nat // FmI p x.1 x.2.1 x.2.2 }) (fun x => ⟨[(0, A.c (.ref 0 0)), (3, A.c (.own 50 (frRows x.1.2.1)))], [(0, pbox x.1.1), (50, .perm 12 57)], []⟩) (fun x => x.1.2.2) ⟨((tableM 0 p).2, [(tableM 0 p).1], 1001), FmI.start hg⟩ (weakens_id (.cons rfl (A.le_of_eq (by first | rfl | (simp [A.ren, C.ren, renOf, lk]; done) | (simp [A.ren, C.ren, renOf, lk]; omega) | omega)) (.cons rfl (A.le_of_eq (by first | rfl | (simp [A.ren, C.ren, renOf, lk]; done) | (simp [A.ren, C.ren, renOf, lk]; omega) | omega)) .nil)) (.cons rfl (Ob.le_refl _) (.cons rfl (Ob.le_refl _) .nil)) rfl rfl rfl rfl) ?_
  rintro ⟨⟨pP, lL, mM⟩, hI⟩
  simp only at hI
  have hIl := hI.len; have hIt := hI.lt; have hO1 := hI.good.ok.at_; have hO2 := hI.good.ok.len
  show AW _ _ (⟨[(0, A.c (.ref 0 0)), (3, A.c (.own 50 (frRows lL)))], [(0, pbox pP), (50, .perm 12 57)], []⟩ : St) _
  refine AW.seq ?_
  refine AW.seq ?_
  refine AW.region ?_
  refine AL.go (OpR.plain rfl (r_move rfl (nb rfl) (by rintro _ ⟨⟩))) ?_
  refine AL.go (OpR.plain rfl (r_callId (ok_s _) en_25 rfl rfl rfl rfl (.cons (A.le_refl _) .nil) rfl (.cons rfl .nil) rfl rfl rfl (nb rfl))) ?_
  refine AL.nil ?_
  refine thenN ?_
  refine AW.condb rfl (fun h1 => ?_) (fun h1 => ?_)
  · have h1n := h1; try simp only [dtt, dff, bqi, bqf, bni, bnf, nt1, nf1, nt0, nf0, ne_eq, ilt, ile, List.length_map, List.length_append, lnc, lnn, zad, Int.toNat_natCast] at h1n
    refine AW.skip ?_
    refine thenN ?_
    refine AW.block ?_
    refine AW.seq ?_
    refine AW.region ?_
    refine AL.go (OpR.plain rfl (r_move rfl (nb rfl) (by rintro _ ⟨⟩))) ?_
    refine AL.go (OpR.plain rfl (r_callId (tok_s _ hI.good.ok) en_48 rfl rfl rfl rfl (.cons (A.le_refl _) .nil) rfl (.cons rfl .nil) rfl rfl rfl (nb rfl))) ?_
    refine AL.go (OpR.plain rfl (r_alloc 51 ti_71 zc_71 rfl rfl (nb rfl))) ?_
    refine AL.go (OpR.plain rfl (r_storeN ti_71 rfl rfl rfl rfl rfl (nb rfl) (by simp only [putAt, tks, tkz, tkn, dps, dpz, cap, nap, apn, lnc, lnn, zad, Nat.reduceAdd, adz]; rfl) (by rintro _ ⟨⟩))) ?_
    refine AL.nil ?_
    refine thenN ?_
    refine AW.seq ?_
    refine AW.region ?_
    first | refine AL.go (OpR.plain rfl (r_fieldAddr fo_71_1 (by decide) rfl (nb rfl))) ?_ | refine AL.go (OpR.plain rfl (r_fieldAddrp fo_71_1 (by decide) rfl (nb rfl))) ?_
    first | refine AL.go (OpR.plain rfl (r_load ti_9 rfl rfl rfl (nb rfl))) ?_ | refine AL.go (OpR.plain rfl (r_loadp ti_9 rfl rfl (nb rfl))) ?_
    refine AL.go (OpR.plain rfl (r_callFun (join_s _) en_57 rfl rfl rfl rfl (.cons (A.le_refl _) .nil) rfl (nb rfl))) ?_
    refine AL.go (OpR.plain rfl (r_assign rfl (nb rfl) (by rintro _ ⟨⟩))) ?_
    refine AL.nil ?_
    refine thenN ?_
    refine AW.seq ?_
    refine AW.seq ?_
    refine AW.region ?_
    first | refine AL.go (OpR.plain rfl (r_fieldAddr fo_71_0 (by decide) rfl (nb rfl))) ?_ | refine AL.go (OpR.plain rfl (r_fieldAddrp fo_71_0 (by decide) rfl (nb rfl))) ?_
    first | refine AL.go (OpR.plain rfl (r_load ti_3 rfl rfl rfl (nb rfl))) ?_ | refine AL.go (OpR.plain rfl (r_loadp ti_3 rfl rfl (nb rfl))) ?_
    refine AL.go (OpR.plain rfl (r_bin rfl rfl (nb rfl) rfl (run_int_neq _ _ _))) ?_
    refine AL.go (OpR.plain rfl (r_move rfl (nb rfl) (by rintro _ ⟨⟩))) ?_
    refine AL.ifb (t := 20) rfl (fun h2 => ?_) (fun h2 => ?_)
    · have h2n := h2; try simp only [dtt, dff, bqi, bqf, bni, bnf, nt1, nf1, nt0, nf0, ne_eq, ilt, ile, List.length_map, List.length_append, lnc, lnn, zad, Int.toNat_natCast] at h2n
      refine AL.go (.off rfl rfl (nb rfl) rfl (by rw [h2]; decide) rfl (nb rfl)) ?_
      refine AL.go (.off rfl rfl (nb rfl) rfl (by rw [h2]; decide) rfl (nb rfl)) ?_
      refine AL.go (OpR.plain rfl (r_pickTb rfl (h2) rfl (nb rfl) (by rintro _ ⟨⟩; rfl))) ?_
      refine AL.nil ?_
      refine thenN ?_
      refine AW.condT rfl (rfl) ?_
      refine AW.exit ?_
      refine thenX ?_
      refine inbX (by decide) ?_
      refine thenX ?_
      refine inbE ?_
      refine thenN ?_
      refine AW.seq ?_
      refine AW.region ?_
      refine AL.go (OpR.plain rfl (r_move rfl (nb rfl) (by rintro _ ⟨⟩))) ?_
      refine AL.go (OpR.plain rfl (r_assign rfl (nb rfl) (by rintro _ ⟨⟩))) ?_
      refine AL.nil ?_
      refine thenN ?_
      refine AW.ret ?_
      refine fin_id (.inr rfl) (ends_of rfl (.tmp rfl .nil)) ?_ (.cons rfl (Ob.le_of_eq (by first | rw [hI.err (by assumption)] | rw [hI.brk (by assumption) (.inl (by assumption))] | rw [hI.brk (by assumption) (.inr (by assumption))])) .nil) rfl rfl rfl rfl
      simp only [retA]
      first | (rw [hI.err (by assumption)]; exact A.le_own) | (rw [hI.brk (by assumption) (.inl (by assumption))]; exact A.le_own) | (rw [hI.brk (by assumption) (.inr (by assumption))]; exact A.le_own)
    · have h2n := h2; try simp only [dtt, dff, bqi, bqf, bni, bnf, nt1, nf1, nt0, nf0, ne_eq, ilt, ile, List.length_map, List.length_append, lnc, lnn, zad, Int.toNat_natCast] at h2n
      refine AL.go (OpR.onb rfl rfl (nb rfl) rfl (h2) (r_move rfl (nb rfl) (by rintro _ ⟨⟩))) ?_
      refine AL.go (OpR.onb rfl rfl (nb rfl) rfl (h2) (r_bin rfl rfl (nb rfl) rfl (run_int_eql _ _ _))) ?_
      refine AL.go (OpR.plain rfl (r_pickFb rfl (h2) rfl (nb rfl) (by rintro _ ⟨⟩))) ?_
      refine AL.nil ?_
      refine thenN ?_
      refine AW.condb rfl (fun h3 => ?_) (fun h3 => ?_)
      · have h3n := h3; try simp only [dtt, dff, bqi, bqf, bni, bnf, nt1, nf1, nt0, nf0, ne_eq, ilt, ile, List.length_map, List.length_append, lnc, lnn, zad, Int.toNat_natCast] at h3n
        refine AW.exit ?_
        refine thenX ?_
        refine inbX (by decide) ?_
        refine thenX ?_
        refine inbE ?_
        refine thenN ?_
        refine AW.seq ?_
        refine AW.region ?_
        refine AL.go (OpR.plain rfl (r_move rfl (nb rfl) (by rintro _ ⟨⟩))) ?_
        refine AL.go (OpR.plain rfl (r_assign rfl (nb rfl) (by rintro _ ⟨⟩))) ?_
        refine AL.nil ?_
        refine thenN ?_
        refine AW.ret ?_
        refine fin_id (.inr rfl) (ends_of rfl (.tmp rfl .nil)) ?_ (.cons rfl (Ob.le_of_eq (by first | rw [hI.err (by assumption)] | rw [hI.brk (by assumption) (.inl (by assumption))] | rw [hI.brk (by assumption) (.inr (by assumption))])) .nil) rfl rfl rfl rfl
        simp only [retA]
        first | (rw [hI.err (by assumption)]; exact A.le_own) | (rw [hI.brk (by assumption) (.inl (by assumption))]; exact A.le_own) | (rw [hI.brk (by assumption) (.inr (by assumption))]; exact A.le_own)
      · have h3n := h3; try simp only [dtt, dff, bqi, bqf, bni, bnf, nt1, nf1, nt0, nf0, ne_eq, ilt, ile, List.length_map, List.length_append, lnc, lnn, zad, Int.toNat_natCast] at h3n
        refine AW.skip ?_
        refine thenN ?_
        refine AW.seq ?_
        refine AW.region ?_
        refine AL.go (OpR.plain rfl (r_move rfl (nb rfl) (by rintro _ ⟨⟩))) ?_
        first | refine AL.go (OpR.plain rfl (r_nilCheck rfl (.inl ⟨_, _, rfl⟩) (nb rfl))) ?_ | refine AL.go (OpR.plain rfl (r_nilCheck rfl (.inr ⟨_, rfl⟩) (nb rfl))) ?_
        first | refine AL.go (OpR.plain rfl (r_fieldAddr fo_52_1 (by decide) rfl (nb rfl))) ?_ | refine AL.go (OpR.plain rfl (r_fieldAddrp fo_52_1 (by decide) rfl (nb rfl))) ?_
        first | refine AL.go (OpR.plain rfl (r_load ti_3 rfl rfl rfl (nb rfl))) ?_ | refine AL.go (OpR.plain rfl (r_loadp ti_3 rfl rfl (nb rfl))) ?_
        refine AL.go (OpR.plain rfl (r_add rfl rfl (nb rfl) (by first | omega | (simp only [dtt, dff, bqi, bqf, bni, nt1, nf1] at *; omega)) (by first | omega | (simp only [dtt, dff, bqi, bqf, bni, nt1, nf1] at *; omega)))) ?_
        first | refine AL.go (OpR.plain rfl (r_nilCheck rfl (.inl ⟨_, _, rfl⟩) (nb rfl))) ?_ | refine AL.go (OpR.plain rfl (r_nilCheck rfl (.inr ⟨_, rfl⟩) (nb rfl))) ?_
        first | refine AL.go (OpR.plain rfl (r_fieldAddr fo_52_1 (by decide) rfl (nb rfl))) ?_ | refine AL.go (OpR.plain rfl (r_fieldAddrp fo_52_1 (by decide) rfl (nb rfl))) ?_
        refine AL.go (OpR.plain rfl (r_storeN ti_3 rfl rfl rfl rfl rfl (nb rfl) (by simp only [putAt, tks, tkz, tkn, dps, dpz, cap, nap, apn, lnc, lnn, zad, Nat.reduceAdd, adz]; rfl) (by rintro _ ⟨⟩))) ?_
        refine AL.nil ?_
        refine thenN ?_
        refine AW.seq ?_
        refine AW.seq ?_
        refine AW.region ?_
        have hE : pP.e = 0 := by assumption
        have hK : pP.tok.kind = 2 := by simp_all
        have hJ : ¬ joinOf pP.tok.text = 0 := by simp_all
        have hS := fr_step hI.good hK
        have hF := (frP_keeps hI.good hK).good
        have hT : Good (frT pP).2 := (tableM_keeps hF).good
        refine AL.weaken (s' := ⟨[(0, A.c (.ref 0 0)), (3, A.c (.own 50 (frRows lL))), (5, A.i64 (joinOf pP.tok.text))], [(0, pbox pP.step), (50, .perm 12 57)], []⟩) (weakens_id (.cons rfl (A.le_refl _) (.cons rfl (A.le_refl _) (.cons rfl (A.le_refl _) .nil))) (.cons rfl (Ob.le_of_eq (by rfl)) (.cons rfl (Ob.le_refl _) .nil)) rfl rfl rfl rfl) ?_
        refine AL.go (OpR.plain rfl (r_move rfl (nb rfl) (by rintro _ ⟨⟩))) ?_
        refine AL.go (OpR.plain rfl (r_bin rfl rfl (nb rfl) rfl (run_int_neq _ _ _))) ?_
        refine AL.nil ?_
        refine thenN ?_
        refine AW.condb rfl (fun h4 => ?_) (fun h4 => ?_)
        · have h4n := h4; try simp only [dtt, dff, bqi, bqf, bni, bnf, nt1, nf1, nt0, nf0, ne_eq, ilt, ile, List.length_map, List.length_append, lnc, lnn, zad, Int.toNat_natCast] at h4n
          refine AW.region ?_
          refine AL.go (OpR.plain rfl (r_move rfl (nb rfl) (by rintro _ ⟨⟩))) ?_
          refine AL.go (OpR.plain rfl (r_callId (must_s pP.step hS.ok bJoin) en_38 rfl rfl rfl rfl (.cons (A.le_refl _) (.cons (A.le_refl _) .nil)) rfl (.cons rfl .nil) rfl rfl rfl (nb rfl))) ?_
          refine AL.nil ?_
          refine thenN ?_
          refine AW.seq ?_
          refine AW.region ?_
          refine AL.weaken (s' := ⟨[(0, A.c (.ref 0 0)), (3, A.c (.own 50 (frRows lL))), (5, A.i64 (joinOf pP.tok.text))], [(0, pbox (frP pP)), (50, .perm 12 57)], []⟩) (weakens_id (.cons rfl (A.le_refl _) (.cons rfl (A.le_refl _) (.cons rfl (A.le_refl _) .nil))) (.cons rfl (Ob.le_of_eq (by first | (rw [frP_t (by assumption)]; done) | (rw [frP_f (by assumption)]; done))) (.cons rfl (Ob.le_refl _) .nil)) rfl rfl rfl rfl) ?_
          refine AL.go (OpR.plain rfl (r_move rfl (nb rfl) (by rintro _ ⟨⟩))) ?_
          refine AL.go (OpR.plain rfl (r_move rfl (nb rfl) (by rintro _ ⟨⟩))) ?_
          refine AL.go (OpR.plain rfl (r_callId (table_s (frP pP) hF _) en_56 rfl rfl rfl rfl (.cons (A.le_refl _) (.cons (A.le_refl _) .nil)) rfl (.cons rfl .nil) rfl rfl rfl (nb rfl))) ?_
          refine AL.go (OpR.plain rfl (r_alloc 52 ti_57 zc_57 rfl rfl (nb rfl))) ?_
          refine AL.go (OpR.plain rfl (r_storeN ti_57 rfl rfl rfl rfl rfl (nb rfl) (by simp only [putAt, tks, tkz, tkn, dps, dpz, cap, nap, apn, lnc, lnn, zad, Nat.reduceAdd, adz]; rfl) (by rintro _ ⟨⟩))) ?_
          refine AL.nil ?_
          refine thenN ?_
          refine AW.seq ?_
          refine AW.region ?_
          refine AL.go (OpR.plain rfl (r_move rfl (nb rfl) (by rintro _ ⟨⟩))) ?_
          refine AL.go (OpR.plain rfl (r_callId (must_s _ hT.ok bOn) en_38 rfl rfl rfl rfl (.cons (A.le_refl _) (.cons (A.le_refl _) .nil)) rfl (.cons rfl .nil) rfl rfl rfl (nb rfl))) ?_
          refine AL.nil ?_
          refine thenN ?_
          refine AW.seq ?_
          refine AW.region ?_
          refine AL.go (OpR.plain rfl (r_move rfl (nb rfl) (by rintro _ ⟨⟩))) ?_
          refine AL.go (OpR.plain rfl (r_callId (or_q ((frT pP).2.must bOn) (hT.must _)) en_23 rfl rfl rfl rfl (.cons (A.le_refl _) .nil) rfl (.cons rfl .nil) rfl rfl rfl (nb rfl))) ?_
          first | refine AL.go (OpR.plain rfl (r_fieldAddr fo_57_3 (by decide) rfl (nb rfl))) ?_ | refine AL.go (OpR.plain rfl (r_fieldAddrp fo_57_3 (by decide) rfl (nb rfl))) ?_
          refine AL.go (OpR.plain rfl (r_storeN ti_27 rfl rfl rfl rfl rfl (nb rfl) (by simp only [putAt, tks, tkz, tkn, dps, dpz, cap, nap, apn, lnc, lnn, zad, Nat.reduceAdd, adz]; rfl) (by rintro _ ⟨⟩))) ?_
          refine AL.nil ?_
          refine thenN ?_
          refine AW.seq ?_
          refine AW.region ?_
          refine AL.go (OpR.plain rfl (r_move rfl (nb rfl) (by rintro _ ⟨⟩))) ?_
          first | refine AL.go (OpR.plain rfl (r_load ti_57 rfl rfl (by simp only [loaded, mpc, mpn, if_true, ler, tks, tkz, tkn, dps, dpz, cap, nap, apn, lnc, lnn, zad, Nat.reduceAdd, adz]; rfl) (nb rfl))) ?_ | refine AL.go (OpR.plain rfl (r_loadp ti_57 rfl (by simp only [loaded, mpc, mpn, if_true, ler, tks, tkz, tkn, dps, dpz, cap, nap, apn, lnc, lnn, zad, Nat.reduceAdd, adz]; rfl) (nb rfl))) ?_
          refine AL.go (OpR.plain rfl (r_buildSlice un_35 ti_57 rfl rfl rfl rfl rfl (by decide) (by decide) rfl (nb rfl))) ?_
          first | refine AL.go (OpR.plain rfl (r_append 54 un_35 ti_57 rfl rfl rfl rfl (by first | exact .sl | exact .own | exact .nil) rfl (by first | exact fr_len | (intro r hr; simp at hr; subst hr; rfl)) (by first | exact fr_len | (intro r hr; simp at hr; subst hr; rfl)) rfl (by simp [maxLen]; omega) (by simp [maxLen]; omega) (nb rfl))) ?_ | refine AL.go (OpR.plain rfl (r_appendNil 53 54 un_35 ti_57 rfl rfl rfl (by first | exact .sl | exact .own | exact .nil) rfl (by first | exact fr_len | (intro r hr; simp at hr; subst hr; rfl)) rfl rfl (by decide) (by simp [maxLen]; omega) (by simp [maxLen]; omega) (nb rfl))) ?_
          refine AL.go (OpR.plain rfl (r_assign rfl (nb rfl) (by rintro _ ⟨⟩))) ?_
          refine AL.nil ?_
          refine thenN ?_
          refine AW.seq ?_
          refine AW.region ?_
          refine AL.go (OpR.plain rfl (r_move rfl (nb rfl) (by rintro _ ⟨⟩))) ?_
          refine AL.go (OpR.plain rfl (r_len un_35 rfl (by first | exact .sl | exact .own | exact .row | exact .nil) (by intro _ h; cases h) (nb rfl) (by rintro _ ⟨⟩))) ?_
          refine AL.go (OpR.plain rfl (r_bin rfl rfl (nb rfl) rfl (run_int_gtr _ _ _))) ?_
          refine AL.nil ?_
          refine thenN ?_
          refine AW.condb rfl (fun h5 => ?_) (fun h5 => ?_)
          · have h5n := h5; try simp only [dtt, dff, bqi, bqf, bni, bnf, nt1, nf1, nt0, nf0, ne_eq, ilt, ile, List.length_map, List.length_append, lnc, lnn, zad, Int.toNat_natCast] at h5n
            refine AW.region ?_
            refine AL.go (OpR.plain rfl (r_move rfl (nb rfl) (by rintro _ ⟨⟩))) ?_
            refine AL.go (OpR.plain rfl (r_callId (fail_s _ _) en_49 rfl rfl rfl rfl (.cons (A.le_refl _) (.cons (A.le_refl _) .nil)) rfl (.cons rfl .nil) rfl rfl rfl (nb rfl))) ?_
            refine AL.nil ?_
            refine inbN ?_
            refine thenN ?_
            refine ⟨⟨(limM 8 (lL.length + 1) (frO pP).2, lL ++ [frX pP], mM - 1), hI.next hE hK hJ⟩, by have := hI.lt; simp only; omega, weakens_ren [(50, 54)] (.cons rfl (A.le_of_eq (by first | rfl | (simp [A.ren, C.ren, renOf, lk]; done) | (simp [A.ren, C.ren, renOf, lk]; omega) | omega)) (.cons rfl (A.le_of_eq (by simp [frX, frT, frO, tableM, A.ren, C.ren, renOf, lk])) .nil)) (.cons rfl (Ob.le_of_eq (by first | exact congrArg pbox (lim_t (most := 8) (k := lL.length + 1) (q := (frO pP).2) (by omega)).symm | exact congrArg pbox (lim_f (most := 8) (k := lL.length + 1) (q := (frO pP).2) (by omega)).symm)) (.cons rfl (Ob.le_refl _) .nil)) rfl rfl rfl rfl rfl rfl⟩
          · have h5n := h5; try simp only [dtt, dff, bqi, bqf, bni, bnf, nt1, nf1, nt0, nf0, ne_eq, ilt, ile, List.length_map, List.length_append, lnc, lnn, zad, Int.toNat_natCast] at h5n
            refine AW.skip ?_
            refine inbN ?_
            refine thenN ?_
            refine ⟨⟨(limM 8 (lL.length + 1) (frO pP).2, lL ++ [frX pP], mM - 1), hI.next hE hK hJ⟩, by have := hI.lt; simp only; omega, weakens_ren [(50, 54)] (.cons rfl (A.le_of_eq (by first | rfl | (simp [A.ren, C.ren, renOf, lk]; done) | (simp [A.ren, C.ren, renOf, lk]; omega) | omega)) (.cons rfl (A.le_of_eq (by simp [frX, frT, frO, tableM, A.ren, C.ren, renOf, lk])) .nil)) (.cons rfl (Ob.le_of_eq (by first | exact congrArg pbox (lim_t (most := 8) (k := lL.length + 1) (q := (frO pP).2) (by omega)).symm | exact congrArg pbox (lim_f (most := 8) (k := lL.length + 1) (q := (frO pP).2) (by omega)).symm)) (.cons rfl (Ob.le_refl _) .nil)) rfl rfl rfl rfl rfl rfl⟩
        · have h4n := h4; try simp only [dtt, dff, bqi, bqf, bni, bnf, nt1, nf1, nt0, nf0, ne_eq, ilt, ile, List.length_map, List.length_append, lnc, lnn, zad, Int.toNat_natCast] at h4n
          refine AW.skip ?_
          refine thenN ?_
          refine AW.seq ?_
          refine AW.region ?_
          refine AL.weaken (s' := ⟨[(0, A.c (.ref 0 0)), (3, A.c (.own 50 (frRows lL))), (5, A.i64 (joinOf pP.tok.text))], [(0, pbox (frP pP)), (50, .perm 12 57)], []⟩) (weakens_id (.cons rfl (A.le_refl _) (.cons rfl (A.le_refl _) (.cons rfl (A.le_refl _) .nil))) (.cons rfl (Ob.le_of_eq (by first | (rw [frP_t (by assumption)]; done) | (rw [frP_f (by assumption)]; done))) (.cons rfl (Ob.le_refl _) .nil)) rfl rfl rfl rfl) ?_
          refine AL.go (OpR.plain rfl (r_move rfl (nb rfl) (by rintro _ ⟨⟩))) ?_
          refine AL.go (OpR.plain rfl (r_move rfl (nb rfl) (by rintro _ ⟨⟩))) ?_
          refine AL.go (OpR.plain rfl (r_callId (table_s (frP pP) hF _) en_56 rfl rfl rfl rfl (.cons (A.le_refl _) (.cons (A.le_refl _) .nil)) rfl (.cons rfl .nil) rfl rfl rfl (nb rfl))) ?_
          refine AL.go (OpR.plain rfl (r_alloc 52 ti_57 zc_57 rfl rfl (nb rfl))) ?_
          refine AL.go (OpR.plain rfl (r_storeN ti_57 rfl rfl rfl rfl rfl (nb rfl) (by simp only [putAt, tks, tkz, tkn, dps, dpz, cap, nap, apn, lnc, lnn, zad, Nat.reduceAdd, adz]; rfl) (by rintro _ ⟨⟩))) ?_
          refine AL.nil ?_
          refine thenN ?_
          refine AW.seq ?_
          refine AW.region ?_
          refine AL.go (OpR.plain rfl (r_move rfl (nb rfl) (by rintro _ ⟨⟩))) ?_
          refine AL.go (OpR.plain rfl (r_callId (must_s _ hT.ok bOn) en_38 rfl rfl rfl rfl (.cons (A.le_refl _) (.cons (A.le_refl _) .nil)) rfl (.cons rfl .nil) rfl rfl rfl (nb rfl))) ?_
          refine AL.nil ?_
          refine thenN ?_
          refine AW.seq ?_
          refine AW.region ?_
          refine AL.go (OpR.plain rfl (r_move rfl (nb rfl) (by rintro _ ⟨⟩))) ?_
          refine AL.go (OpR.plain rfl (r_callId (or_q ((frT pP).2.must bOn) (hT.must _)) en_23 rfl rfl rfl rfl (.cons (A.le_refl _) .nil) rfl (.cons rfl .nil) rfl rfl rfl (nb rfl))) ?_
          first | refine AL.go (OpR.plain rfl (r_fieldAddr fo_57_3 (by decide) rfl (nb rfl))) ?_ | refine AL.go (OpR.plain rfl (r_fieldAddrp fo_57_3 (by decide) rfl (nb rfl))) ?_
          refine AL.go (OpR.plain rfl (r_storeN ti_27 rfl rfl rfl rfl rfl (nb rfl) (by simp only [putAt, tks, tkz, tkn, dps, dpz, cap, nap, apn, lnc, lnn, zad, Nat.reduceAdd, adz]; rfl) (by rintro _ ⟨⟩))) ?_
          refine AL.nil ?_
          refine thenN ?_
          refine AW.seq ?_
          refine AW.region ?_
          refine AL.go (OpR.plain rfl (r_move rfl (nb rfl) (by rintro _ ⟨⟩))) ?_
          first | refine AL.go (OpR.plain rfl (r_load ti_57 rfl rfl (by simp only [loaded, mpc, mpn, if_true, ler, tks, tkz, tkn, dps, dpz, cap, nap, apn, lnc, lnn, zad, Nat.reduceAdd, adz]; rfl) (nb rfl))) ?_ | refine AL.go (OpR.plain rfl (r_loadp ti_57 rfl (by simp only [loaded, mpc, mpn, if_true, ler, tks, tkz, tkn, dps, dpz, cap, nap, apn, lnc, lnn, zad, Nat.reduceAdd, adz]; rfl) (nb rfl))) ?_
          refine AL.go (OpR.plain rfl (r_buildSlice un_35 ti_57 rfl rfl rfl rfl rfl (by decide) (by decide) rfl (nb rfl))) ?_
          first | refine AL.go (OpR.plain rfl (r_append 54 un_35 ti_57 rfl rfl rfl rfl (by first | exact .sl | exact .own | exact .nil) rfl (by first | exact fr_len | (intro r hr; simp at hr; subst hr; rfl)) (by first | exact fr_len | (intro r hr; simp at hr; subst hr; rfl)) rfl (by simp [maxLen]; omega) (by simp [maxLen]; omega) (nb rfl))) ?_ | refine AL.go (OpR.plain rfl (r_appendNil 53 54 un_35 ti_57 rfl rfl rfl (by first | exact .sl | exact .own | exact .nil) rfl (by first | exact fr_len | (intro r hr; simp at hr; subst hr; rfl)) rfl rfl (by decide) (by simp [maxLen]; omega) (by simp [maxLen]; omega) (nb rfl))) ?_
          refine AL.go (OpR.plain rfl (r_assign rfl (nb rfl) (by rintro _ ⟨⟩))) ?_
          refine AL.nil ?_
          refine thenN ?_
          refine AW.seq ?_
          refine AW.region ?_
          refine AL.go (OpR.plain rfl (r_move rfl (nb rfl) (by rintro _ ⟨⟩))) ?_
          refine AL.go (OpR.plain rfl (r_len un_35 rfl (by first | exact .sl | exact .own | exact .row | exact .nil) (by intro _ h; cases h) (nb rfl) (by rintro _ ⟨⟩))) ?_
          refine AL.go (OpR.plain rfl (r_bin rfl rfl (nb rfl) rfl (run_int_gtr _ _ _))) ?_
          refine AL.nil ?_
          refine thenN ?_
          refine AW.condb rfl (fun h6 => ?_) (fun h6 => ?_)
          · have h6n := h6; try simp only [dtt, dff, bqi, bqf, bni, bnf, nt1, nf1, nt0, nf0, ne_eq, ilt, ile, List.length_map, List.length_append, lnc, lnn, zad, Int.toNat_natCast] at h6n
            refine AW.region ?_
            refine AL.go (OpR.plain rfl (r_move rfl (nb rfl) (by rintro _ ⟨⟩))) ?_
            refine AL.go (OpR.plain rfl (r_callId (fail_s _ _) en_49 rfl rfl rfl rfl (.cons (A.le_refl _) (.cons (A.le_refl _) .nil)) rfl (.cons rfl .nil) rfl rfl rfl (nb rfl))) ?_
            refine AL.nil ?_
            refine inbN ?_
            refine thenN ?_
            refine ⟨⟨(limM 8 (lL.length + 1) (frO pP).2, lL ++ [frX pP], mM - 1), hI.next hE hK hJ⟩, by have := hI.lt; simp only; omega, weakens_ren [(50, 54)] (.cons rfl (A.le_of_eq (by first | rfl | (simp [A.ren, C.ren, renOf, lk]; done) | (simp [A.ren, C.ren, renOf, lk]; omega) | omega)) (.cons rfl (A.le_of_eq (by simp [frX, frT, frO, tableM, A.ren, C.ren, renOf, lk])) .nil)) (.cons rfl (Ob.le_of_eq (by first | exact congrArg pbox (lim_t (most := 8) (k := lL.length + 1) (q := (frO pP).2) (by omega)).symm | exact congrArg pbox (lim_f (most := 8) (k := lL.length + 1) (q := (frO pP).2) (by omega)).symm)) (.cons rfl (Ob.le_refl _) .nil)) rfl rfl rfl rfl rfl rfl⟩
          · have h6n := h6; try simp only [dtt, dff, bqi, bqf, bni, bnf, nt1, nf1, nt0, nf0, ne_eq, ilt, ile, List.length_map, List.length_append, lnc, lnn, zad, Int.toNat_natCast] at h6n
            refine AW.skip ?_
            refine inbN ?_
            refine thenN ?_
            refine ⟨⟨(limM 8 (lL.length + 1) (frO pP).2, lL ++ [frX pP], mM - 1), hI.next hE hK hJ⟩, by have := hI.lt; simp only; omega, weakens_ren [(50, 54)] (.cons rfl (A.le_of_eq (by first | rfl | (simp [A.ren, C.ren, renOf, lk]; done) | (simp [A.ren, C.ren, renOf, lk]; omega) | omega)) (.cons rfl (A.le_of_eq (by simp [frX, frT, frO, tableM, A.ren, C.ren, renOf, lk])) .nil)) (.cons rfl (Ob.le_of_eq (by first | exact congrArg pbox (lim_t (most := 8) (k := lL.length + 1) (q := (frO pP).2) (by omega)).symm | exact congrArg pbox (lim_f (most := 8) (k := lL.length + 1) (q := (frO pP).2) (by omega)).symm)) (.cons rfl (Ob.le_refl _) .nil)) rfl rfl rfl rfl rfl rfl⟩
  · have h1n := h1; try simp only [dtt, dff, bqi, bqf, bni, bnf, nt1, nf1, nt0, nf0, ne_eq, ilt, ile, List.length_map, List.length_append, lnc, lnn, zad, Int.toNat_natCast] at h1n
    refine AW.exit ?_
    refine thenX ?_
    refine thenX ?_
    refine inbE ?_
    refine thenN ?_
    refine AW.seq ?_
    refine AW.region ?_
    refine AL.go (OpR.plain rfl (r_move rfl (nb rfl) (by rintro _ ⟨⟩))) ?_
    refine AL.go (OpR.plain rfl (r_assign rfl (nb rfl) (by rintro _ ⟨⟩))) ?_
    refine AL.nil ?_
    refine thenN ?_
    refine AW.ret ?_
    refine fin_id (.inr rfl) (ends_of rfl (.tmp rfl .nil)) ?_ (.cons rfl (Ob.le_of_eq (by first | rw [hI.err (by assumption)] | rw [hI.brk (by assumption) (.inl (by assumption))] | rw [hI.brk (by assumption) (.inr (by assumption))])) .nil) rfl rfl rfl rfl
    simp only [retA]
    first | (rw [hI.err (by assumption)]; exact A.le_own) | (rw [hI.brk (by assumption) (.inl (by assumption))]; exact A.le_own) | (rw [hI.brk (by assumption) (.inr (by assumption))]; exact A.le_own)

end Go.Par

namespace Go.Par
open Go Go.Am Go.Proofs Go.RowKit
set_option linter.unusedVariables false
set_option linter.unusedSimpArgs false

def qyW (p : Pst) : Ex × Pst := if p.is bWhere = true then orM (p.take bWhere) else (Ex.zero, p.take bWhere)
def qyG (p : Pst) : List Ex × Pst := if p.is bGroup = true then lstM Pst.col 8 1001 ((p.take bGroup).must bBy) [] else ([], p.take bGroup)
abbrev qyI (s : ByteArray) : List Ex × Pst := lstM itemM 16 1001 ((p0 s).must bSel) []
abbrev qyF (s : ByteArray) : List Fr × Pst := frmM ((qyI s).2.must bFrom)
abbrev Qy.zero : Qy := ⟨[], [], Ex.zero, []⟩
/-- What parse.Query tells. -/
def queryP (s : ByteArray) : Qy × Int :=
  if (qyG (qyW (qyF s).2).2).2.fin.e = 0 then (⟨(qyI s).1, (qyF s).1, (qyW (qyF s).2).1, (qyG (qyW (qyF s).2).2).1⟩, 0) else (Qy.zero, (qyG (qyW (qyF s).2).2).2.fin.e)
theorem qyW_t {p : Pst} (h : p.is bWhere = true) : qyW p = ((orM (p.take bWhere)).1, (orM (p.take bWhere)).2) := if_pos h
theorem qyW_f {p : Pst} (h : p.is bWhere = false) : qyW p = (Ex.zero, p.take bWhere) := if_neg (by rw [h]; decide)
theorem qyG_t {p : Pst} (h : p.is bGroup = true) : qyG p = ((lstM Pst.col 8 1001 ((p.take bGroup).must bBy) []).1, (lstM Pst.col 8 1001 ((p.take bGroup).must bBy) []).2) := if_pos h
theorem qyG_f {p : Pst} (h : p.is bGroup = false) : qyG p = ([], p.take bGroup) := if_neg (by rw [h]; decide)
theorem queryP_of {s : ByteArray} {w : Ex} {g : List Ex} {p q : Pst} (hw : qyW (qyF s).2 = (w, p)) (hg : qyG p = (g, q)) : queryP s = if q.fin.e = 0 then (⟨(qyI s).1, (qyF s).1, w, g⟩, 0) else (Qy.zero, q.fin.e) := by
  unfold queryP
  rw [hw]
  simp only
  rw [hg]
theorem Good.lstc {p : Pst} (h : Good p) : Good (lstM Pst.col 8 1001 p []).2 := (lstM_keeps (fun q hq => (keeps_col hq).1) _ _ _ h).good
theorem qyI_good (s : ByteArray) : Good (qyI s).2 := (lstM_keeps (fun q hq => itemM_keeps hq) _ _ _ ((p0_good s).must _)).good
theorem qyF_good (s : ByteArray) : Good (qyF s).2 := (frmM_keeps ((qyI_good s).must _)).good
theorem end_q (p : Pst) (h0 : p.Ok) : Am.Spec Tryd.prog 24 [A.c (.ref 0 0)] [(0, pbox p)] (A.tup []) [(0, pbox p.fin)] := end_s p h0

theorem en_39 : enters Tryd.prog 39 = true := by kernel_rfl
theorem en_40 : enters Tryd.prog 40 = true := by kernel_rfl
theorem en_41 : enters Tryd.prog 41 = true := by kernel_rfl
theorem pl_37 : placesOf Tryd.prog 37 = some ([(0, 1), (1, 1), (2, 9), (11, 1)], Value.agg (List.toArray [Value.slice none 0 0, Value.slice none 0 0, Value.int IntKind.i64 0, Value.string { data := #[] }, Value.string { data := #[] }, Value.int IntKind.i64 0, Value.int IntKind.i64 0, Value.int IntKind.i64 0, Value.int IntKind.i64 0, Value.string { data := #[] }, Value.slice none 0 0, Value.slice none 0 0])) := by kernel_rfl
theorem ti_37 : tinf Tryd.prog 37 = some (12, 184, true, some (Value.agg (List.toArray [Value.slice none 0 0, Value.slice none 0 0, Value.int IntKind.i64 0, Value.string { data := #[] }, Value.string { data := #[] }, Value.int IntKind.i64 0, Value.int IntKind.i64 0, Value.int IntKind.i64 0, Value.int IntKind.i64 0, Value.string { data := #[] }, Value.slice none 0 0, Value.slice none 0 0]))) := by kernel_rfl
theorem zc_37 : plainCells (Value.agg (List.toArray [Value.slice none 0 0, Value.slice none 0 0, Value.int IntKind.i64 0, Value.string { data := #[] }, Value.string { data := #[] }, Value.int IntKind.i64 0, Value.int IntKind.i64 0, Value.int IntKind.i64 0, Value.int IntKind.i64 0, Value.string { data := #[] }, Value.slice none 0 0, Value.slice none 0 0])) = [.d (.v (Value.slice none 0 0)), .d (.v (Value.slice none 0 0)), .d (.v (Value.int IntKind.i64 0)), .d (.v (Value.string { data := #[] })), .d (.v (Value.string { data := #[] })), .d (.v (Value.int IntKind.i64 0)), .d (.v (Value.int IntKind.i64 0)), .d (.v (Value.int IntKind.i64 0)), .d (.v (Value.int IntKind.i64 0)), .d (.v (Value.string { data := #[] })), .d (.v (Value.slice none 0 0)), .d (.v (Value.slice none 0 0))] := rfl

set_option maxHeartbeats 4000000 in
theorem query_q (s : ByteArray) (hs : s.size ≤ 10000000000000) : Am.Spec Tryd.prog 20 [A.val (.string s)] [] (A.tup [qyA (queryP s).1, A.i64 (queryP s).2]) [] := by
  refine spec_ofN (n := 45) Tryd.func20 rfl rfl (nb rfl) ?_
  show AW _ _ (⟨[(0, A.val (.string s))], [], []⟩ : St) _
  have hI := qyI_good s
  have hF := qyF_good s
  refine AW.seq ?_
  refine AW.region ?_
  refine AL.go (OpR.plain rfl (r_alloc 201 ti_37 zc_37 rfl rfl (nb rfl))) ?_
  refine AL.go (OpR.plain rfl (r_assign rfl (nb rfl) (by rintro _ ⟨⟩; rfl))) ?_
  refine AL.nil ?_
  refine thenN ?_
  refine AW.seq ?_
  refine AW.region ?_
  refine AL.go (OpR.plain rfl (r_move rfl (nb rfl) (by rintro _ ⟨⟩))) ?_
  refine AL.go (OpR.plain rfl (r_callId (begin_s s hs) en_22 rfl rfl rfl rfl (.cons (A.le_refl _) .nil) rfl .nil rfl rfl rfl (nb rfl))) ?_
  refine AL.go (OpR.plain rfl (r_assign rfl (nb rfl) (by rintro _ ⟨⟩))) ?_
  refine AL.nil ?_
  refine thenN ?_
  refine AW.seq ?_
  refine AW.region ?_
  refine AL.go (OpR.plain rfl (r_alloc 202 ti_37 zc_37 rfl rfl (nb rfl))) ?_
  refine AL.nil ?_
  refine thenN ?_
  refine AW.seq ?_
  refine AW.region ?_
  refine AL.go (OpR.plain rfl (r_move rfl (nb rfl) (by rintro _ ⟨⟩))) ?_
  refine AL.go (OpR.plain rfl (r_callId (must_s (p0 s) (p0_good s).ok bSel) en_38 rfl rfl rfl rfl (.cons (A.le_refl _) (.cons (A.le_refl _) .nil)) rfl (.cons rfl .nil) rfl rfl rfl (nb rfl))) ?_
  refine AL.nil ?_
  refine thenN ?_
  refine AW.seq ?_
  refine AW.region ?_
  refine AL.go (OpR.plain rfl (r_move rfl (nb rfl) (by rintro _ ⟨⟩))) ?_
  refine AL.go (OpR.plain rfl (r_move rfl (nb rfl) (by rintro _ ⟨⟩))) ?_
  refine AL.go (OpR.plain rfl (r_makeFunc (xs := [.ref 0 0]) (ys := []) rfl rfl (nb rfl) (by simp))) ?_
  refine AL.go (OpR.plain rfl (r_callId (list_q 40 itemM 16 ((p0 s).must bSel) ((p0_good s).must _) en_40 (fun q h => itemM_keeps h) (fun q h => item_s q h)) en_39 rfl rfl rfl rfl (.cons (A.le_refl _) (.cons (A.le_refl _) (.cons (A.le_of_eq rfl) .nil))) rfl (.cons rfl .nil) rfl rfl rfl (nb rfl))) ?_
  first | refine AL.go (OpR.plain rfl (r_fieldAddr fo_37_0 (by decide) rfl (nb rfl))) ?_ | refine AL.go (OpR.plain rfl (r_fieldAddrp fo_37_0 (by decide) rfl (nb rfl))) ?_
  refine AL.go (OpR.plain rfl (r_storeN ti_25 rfl rfl rfl rfl rfl (nb rfl) (by simp only [putAt, tks, tkz, tkn, dps, dpz, cap, nap, apn, lnc, lnn, zad, Nat.reduceAdd, adz]; rfl) (by rintro _ ⟨⟩))) ?_
  refine AL.nil ?_
  refine thenN ?_
  refine AW.seq ?_
  refine AW.region ?_
  refine AL.go (OpR.plain rfl (r_move rfl (nb rfl) (by rintro _ ⟨⟩))) ?_
  refine AL.go (OpR.plain rfl (r_callId (must_s (qyI s).2 hI.ok bFrom) en_38 rfl rfl rfl rfl (.cons (A.le_refl _) (.cons (A.le_refl _) .nil)) rfl (.cons rfl .nil) rfl rfl rfl (nb rfl))) ?_
  refine AL.nil ?_
  refine thenN ?_
  refine AW.seq ?_
  refine AW.region ?_
  refine AL.go (OpR.plain rfl (r_move rfl (nb rfl) (by rintro _ ⟨⟩))) ?_
  refine AL.go (OpR.plain rfl (r_callId (from_q ((qyI s).2.must bFrom) (hI.must _)) en_41 rfl rfl rfl rfl (.cons (A.le_refl _) .nil) rfl (.cons rfl .nil) rfl rfl rfl (nb rfl))) ?_
  first | refine AL.go (OpR.plain rfl (r_fieldAddr fo_37_1 (by decide) rfl (nb rfl))) ?_ | refine AL.go (OpR.plain rfl (r_fieldAddrp fo_37_1 (by decide) rfl (nb rfl))) ?_
  refine AL.go (OpR.plain rfl (r_storeN ti_35 rfl rfl rfl rfl rfl (nb rfl) (by simp only [putAt, tks, tkz, tkn, dps, dpz, cap, nap, apn, lnc, lnn, zad, Nat.reduceAdd, adz]; rfl) (by rintro _ ⟨⟩))) ?_
  refine AL.nil ?_
  refine thenN ?_
  refine AW.seq ?_
  refine AW.seq ?_
  refine AW.region ?_
  refine AL.go (OpR.plain rfl (r_move rfl (nb rfl) (by rintro _ ⟨⟩))) ?_
  refine AL.go (OpR.plain rfl (r_callId (take_s (qyF s).2 hF.ok bWhere) en_42 rfl rfl rfl rfl (.cons (A.le_refl _) (.cons (A.le_refl _) .nil)) rfl (.cons rfl .nil) rfl rfl rfl (nb rfl))) ?_
  refine AL.nil ?_
  refine thenN ?_
  refine AW.condb rfl (fun h1 => ?_) (fun h1 => ?_)
  · have h1n := h1; try simp only [dtt, dff, bqi, bqf, bni, bnf, nt1, nf1, nt0, nf0, ne_eq, ilt, ile] at h1n
    refine AW.region ?_
    refine AL.go (OpR.plain rfl (r_move rfl (nb rfl) (by rintro _ ⟨⟩))) ?_
    refine AL.go (OpR.plain rfl (r_callId (or_q _ (by repeat' (first | assumption | apply Good.take | apply Good.must | apply Good.name | apply Good.fail4 | apply Good.orM | apply Good.lstc))) en_23 rfl rfl rfl rfl (.cons (A.le_refl _) .nil) rfl (.cons rfl .nil) rfl rfl rfl (nb rfl))) ?_
    first | refine AL.go (OpR.plain rfl (r_fieldAddr fo_37_2 (by decide) rfl (nb rfl))) ?_ | refine AL.go (OpR.plain rfl (r_fieldAddrp fo_37_2 (by decide) rfl (nb rfl))) ?_
    refine AL.go (OpR.plain rfl (r_storeN ti_27 rfl rfl rfl rfl rfl (nb rfl) (by simp only [putAt, tks, tkz, tkn, dps, dpz, cap, nap, apn, lnc, lnn, zad, Nat.reduceAdd, adz]; rfl) (by rintro _ ⟨⟩))) ?_
    refine AL.nil ?_
    refine thenN ?_
    refine AW.seq ?_
    refine AW.seq ?_
    refine AW.region ?_
    refine AL.go (OpR.plain rfl (r_move rfl (nb rfl) (by rintro _ ⟨⟩))) ?_
    refine AL.go (OpR.plain rfl (r_callId (take_s _ (Good.ok (by repeat' (first | assumption | apply Good.take | apply Good.must | apply Good.name | apply Good.fail4 | apply Good.orM | apply Good.lstc))) _) en_42 rfl rfl rfl rfl (.cons (A.le_refl _) (.cons (A.le_refl _) .nil)) rfl (.cons rfl .nil) rfl rfl rfl (nb rfl))) ?_
    refine AL.nil ?_
    refine thenN ?_
    refine AW.condb rfl (fun h2 => ?_) (fun h2 => ?_)
    · have h2n := h2; try simp only [dtt, dff, bqi, bqf, bni, bnf, nt1, nf1, nt0, nf0, ne_eq, ilt, ile] at h2n
      refine AW.seq ?_
      refine AW.region ?_
      refine AL.go (OpR.plain rfl (r_move rfl (nb rfl) (by rintro _ ⟨⟩))) ?_
      refine AL.go (OpR.plain rfl (r_callId (must_s _ (Good.ok (by repeat' (first | assumption | apply Good.take | apply Good.must | apply Good.name | apply Good.fail4 | apply Good.orM | apply Good.lstc))) _) en_38 rfl rfl rfl rfl (.cons (A.le_refl _) (.cons (A.le_refl _) .nil)) rfl (.cons rfl .nil) rfl rfl rfl (nb rfl))) ?_
      refine AL.nil ?_
      refine thenN ?_
      refine AW.region ?_
      refine AL.go (OpR.plain rfl (r_move rfl (nb rfl) (by rintro _ ⟨⟩))) ?_
      refine AL.go (OpR.plain rfl (r_move rfl (nb rfl) (by rintro _ ⟨⟩))) ?_
      refine AL.go (OpR.plain rfl (r_makeFunc (xs := [.ref 0 0]) (ys := []) rfl rfl (nb rfl) (by simp))) ?_
      refine AL.go (OpR.plain rfl (r_callId (list_q 43 Pst.col 8 _ (by repeat' (first | assumption | apply Good.take | apply Good.must | apply Good.name | apply Good.fail4 | apply Good.orM | apply Good.lstc)) en_43 (fun q h => (keeps_col h).1) (fun q h => pcol_s q h.ok)) en_39 rfl rfl rfl rfl (.cons (A.le_refl _) (.cons (A.le_refl _) (.cons (A.le_of_eq rfl) .nil))) rfl (.cons rfl .nil) rfl rfl rfl (nb rfl))) ?_
      first | refine AL.go (OpR.plain rfl (r_fieldAddr fo_37_3 (by decide) rfl (nb rfl))) ?_ | refine AL.go (OpR.plain rfl (r_fieldAddrp fo_37_3 (by decide) rfl (nb rfl))) ?_
      refine AL.go (OpR.plain rfl (r_storeN ti_25 rfl rfl rfl rfl rfl (nb rfl) (by simp only [putAt, tks, tkz, tkn, dps, dpz, cap, nap, apn, lnc, lnn, zad, Nat.reduceAdd, adz]; rfl) (by rintro _ ⟨⟩))) ?_
      refine AL.nil ?_
      refine thenN ?_
      refine AW.seq ?_
      refine AW.region ?_
      refine AL.go (OpR.plain rfl (r_move rfl (nb rfl) (by rintro _ ⟨⟩))) ?_
      refine AL.go (OpR.plain rfl (r_callId (end_q _ (Good.ok (by repeat' (first | assumption | apply Good.take | apply Good.must | apply Good.name | apply Good.fail4 | apply Good.orM | apply Good.lstc)))) en_24 rfl rfl rfl rfl (.cons (A.le_refl _) .nil) rfl (.cons rfl .nil) rfl rfl rfl (nb rfl))) ?_
      refine AL.nil ?_
      refine thenN ?_
      refine AW.seq ?_
      refine AW.seq ?_
      refine AW.region ?_
      refine AL.go (OpR.plain rfl (r_move rfl (nb rfl) (by rintro _ ⟨⟩))) ?_
      refine AL.go (OpR.plain rfl (r_callId (ok_s _) en_25 rfl rfl rfl rfl (.cons (A.le_refl _) .nil) rfl (.cons rfl .nil) rfl rfl rfl (nb rfl))) ?_
      refine AL.go (OpR.plain rfl (r_not rfl (nb rfl))) ?_
      refine AL.nil ?_
      refine thenN ?_
      refine AW.condb rfl (fun h3 => ?_) (fun h3 => ?_)
      · have h3n := h3; try simp only [dtt, dff, bqi, bqf, bni, bnf, nt1, nf1, nt0, nf0, ne_eq, ilt, ile] at h3n
        refine AW.seq ?_
        refine AW.draw ?_
        refine DW.go (OpR.plain rfl (r_build pl_37 rfl zc_37 rfl rfl (by simp only [fillC, putAt, gez, ges, if_true, and_self, Nat.reduceLeDiff, true_and, tks, tkz, tkn, dps, dpz, cap, nap, apn, lnc, lnn, zad, Nat.reduceAdd, adz]; rfl) (nb rfl))) ?_
        refine DW.go (OpR.plain rfl (r_move rfl (nb rfl) (by rintro _ ⟨⟩))) ?_
        first | refine DW.go (OpR.plain rfl (r_nilCheck rfl (.inl ⟨_, _, rfl⟩) (nb rfl))) ?_ | refine DW.go (OpR.plain rfl (r_nilCheck rfl (.inr ⟨_, rfl⟩) (nb rfl))) ?_
        first | refine DW.go (OpR.plain rfl (r_fieldAddr fo_52_3 (by decide) rfl (nb rfl))) ?_ | refine DW.go (OpR.plain rfl (r_fieldAddrp fo_52_3 (by decide) rfl (nb rfl))) ?_
        first | refine DW.go (OpR.plain rfl (r_load ti_28 rfl rfl rfl (nb rfl))) ?_ | refine DW.go (OpR.plain rfl (r_loadp ti_28 rfl rfl (nb rfl))) ?_
        refine DW.go (OpR.plain rfl (r_storeN ti_37 rfl rfl rfl rfl rfl (nb rfl) (by simp only [putAt, tks, tkz, tkn, dps, dpz, cap, nap, apn, lnc, lnn, zad, Nat.reduceAdd, adz]; rfl) (by rintro _ ⟨⟩))) ?_
        refine DW.go (OpR.plain rfl (r_assign rfl (nb rfl) (by rintro _ ⟨⟩))) ?_
        refine DW.fin mixed (by kernel_rfl) (by kernel_rfl) ?_
        refine thenN ?_
        refine AW.ret ?_
        refine thenR ?_
        refine fin_id (.inr rfl) (ends_of rfl (.cell ti_37 rfl rfl (by simp only [loaded, if_true, ler, tks, tkz, tkn, dps, dpz, cap, nap, apn, lnc, lnn, zad, Nat.reduceAdd, adz]; rfl) (.tmp rfl .nil))) ?_ .nil rfl rfl rfl rfl
        simp only [retA]
        first | rw [queryP_of (qyW_t (by assumption)) (qyG_t (by assumption))] | rw [queryP_of (qyW_t (by assumption)) (qyG_f (by assumption))] | rw [queryP_of (qyW_f (by assumption)) (qyG_t (by assumption))] | rw [queryP_of (qyW_f (by assumption)) (qyG_f (by assumption))]
        first | (rw [if_pos (by assumption)]; exact A.le_tup (.cons (A.le_agg (.cons (by first | exact C.le_refl _ | exact C.le_nil) (.cons (by first | exact C.le_refl _ | exact C.le_nil) (.cons (by first | exact C.le_refl _ | exact C.le_nil) (.cons (by first | exact C.le_refl _ | exact C.le_nil) (.cons (by first | exact C.le_refl _ | exact C.le_nil) (.cons (by first | exact C.le_refl _ | exact C.le_nil) (.cons (by first | exact C.le_refl _ | exact C.le_nil) (.cons (by first | exact C.le_refl _ | exact C.le_nil) (.cons (by first | exact C.le_refl _ | exact C.le_nil) (.cons (by first | exact C.le_refl _ | exact C.le_nil) (.cons (by first | exact C.le_refl _ | exact C.le_nil) (.cons (by first | exact C.le_refl _ | exact C.le_nil) .nil))))))))))))) (.cons (A.le_refl _) .nil))) | (rw [if_neg (by assumption)]; exact A.le_tup (.cons (A.le_agg (.cons (by first | exact C.le_refl _ | exact C.le_nil) (.cons (by first | exact C.le_refl _ | exact C.le_nil) (.cons (by first | exact C.le_refl _ | exact C.le_nil) (.cons (by first | exact C.le_refl _ | exact C.le_nil) (.cons (by first | exact C.le_refl _ | exact C.le_nil) (.cons (by first | exact C.le_refl _ | exact C.le_nil) (.cons (by first | exact C.le_refl _ | exact C.le_nil) (.cons (by first | exact C.le_refl _ | exact C.le_nil) (.cons (by first | exact C.le_refl _ | exact C.le_nil) (.cons (by first | exact C.le_refl _ | exact C.le_nil) (.cons (by first | exact C.le_refl _ | exact C.le_nil) (.cons (by first | exact C.le_refl _ | exact C.le_nil) .nil))))))))))))) (.cons (A.le_refl _) .nil)))
      · have h3n := h3; try simp only [dtt, dff, bqi, bqf, bni, bnf, nt1, nf1, nt0, nf0, ne_eq, ilt, ile] at h3n
        refine AW.skip ?_
        refine thenN ?_
        refine AW.seq ?_
        refine AW.region ?_
        first | refine AL.go (OpR.plain rfl (r_load ti_37 rfl rfl (by simp only [loaded, mpc, mpn, if_true, ler, tks, tkz, tkn, dps, dpz, cap, nap, apn, lnc, lnn, zad, Nat.reduceAdd, adz]; rfl) (nb rfl))) ?_ | refine AL.go (OpR.plain rfl (r_loadp ti_37 rfl (by simp only [loaded, mpc, mpn, if_true, ler, tks, tkz, tkn, dps, dpz, cap, nap, apn, lnc, lnn, zad, Nat.reduceAdd, adz]; rfl) (nb rfl))) ?_
        refine AL.go (OpR.plain rfl (r_storeN ti_37 rfl rfl rfl rfl rfl (nb rfl) (by simp only [putAt, tks, tkz, tkn, dps, dpz, cap, nap, apn, lnc, lnn, zad, Nat.reduceAdd, adz]; rfl) (by rintro _ ⟨⟩))) ?_
        refine AL.go (OpR.plain rfl (r_assign rfl (nb rfl) (by rintro _ ⟨⟩; rfl))) ?_
        refine AL.nil ?_
        refine thenN ?_
        refine AW.ret ?_
        refine fin_id (.inr rfl) (ends_of rfl (.cell ti_37 rfl rfl (by simp only [loaded, if_true, ler, tks, tkz, tkn, dps, dpz, cap, nap, apn, lnc, lnn, zad, Nat.reduceAdd, adz]; rfl) (.tmp rfl .nil))) ?_ .nil rfl rfl rfl rfl
        simp only [retA]
        first | rw [queryP_of (qyW_t (by assumption)) (qyG_t (by assumption))] | rw [queryP_of (qyW_t (by assumption)) (qyG_f (by assumption))] | rw [queryP_of (qyW_f (by assumption)) (qyG_t (by assumption))] | rw [queryP_of (qyW_f (by assumption)) (qyG_f (by assumption))]
        first | (rw [if_pos (by assumption)]; exact A.le_tup (.cons (A.le_agg (.cons (by first | exact C.le_refl _ | exact C.le_nil) (.cons (by first | exact C.le_refl _ | exact C.le_nil) (.cons (by first | exact C.le_refl _ | exact C.le_nil) (.cons (by first | exact C.le_refl _ | exact C.le_nil) (.cons (by first | exact C.le_refl _ | exact C.le_nil) (.cons (by first | exact C.le_refl _ | exact C.le_nil) (.cons (by first | exact C.le_refl _ | exact C.le_nil) (.cons (by first | exact C.le_refl _ | exact C.le_nil) (.cons (by first | exact C.le_refl _ | exact C.le_nil) (.cons (by first | exact C.le_refl _ | exact C.le_nil) (.cons (by first | exact C.le_refl _ | exact C.le_nil) (.cons (by first | exact C.le_refl _ | exact C.le_nil) .nil))))))))))))) (.cons (A.le_refl _) .nil))) | (rw [if_neg (by assumption)]; exact A.le_tup (.cons (A.le_agg (.cons (by first | exact C.le_refl _ | exact C.le_nil) (.cons (by first | exact C.le_refl _ | exact C.le_nil) (.cons (by first | exact C.le_refl _ | exact C.le_nil) (.cons (by first | exact C.le_refl _ | exact C.le_nil) (.cons (by first | exact C.le_refl _ | exact C.le_nil) (.cons (by first | exact C.le_refl _ | exact C.le_nil) (.cons (by first | exact C.le_refl _ | exact C.le_nil) (.cons (by first | exact C.le_refl _ | exact C.le_nil) (.cons (by first | exact C.le_refl _ | exact C.le_nil) (.cons (by first | exact C.le_refl _ | exact C.le_nil) (.cons (by first | exact C.le_refl _ | exact C.le_nil) (.cons (by first | exact C.le_refl _ | exact C.le_nil) .nil))))))))))))) (.cons (A.le_refl _) .nil)))
    · have h2n := h2; try simp only [dtt, dff, bqi, bqf, bni, bnf, nt1, nf1, nt0, nf0, ne_eq, ilt, ile] at h2n
      refine AW.skip ?_
      refine thenN ?_
      refine AW.seq ?_
      refine AW.region ?_
      refine AL.go (OpR.plain rfl (r_move rfl (nb rfl) (by rintro _ ⟨⟩))) ?_
      refine AL.go (OpR.plain rfl (r_callId (end_q _ (Good.ok (by repeat' (first | assumption | apply Good.take | apply Good.must | apply Good.name | apply Good.fail4 | apply Good.orM | apply Good.lstc)))) en_24 rfl rfl rfl rfl (.cons (A.le_refl _) .nil) rfl (.cons rfl .nil) rfl rfl rfl (nb rfl))) ?_
      refine AL.nil ?_
      refine thenN ?_
      refine AW.seq ?_
      refine AW.seq ?_
      refine AW.region ?_
      refine AL.go (OpR.plain rfl (r_move rfl (nb rfl) (by rintro _ ⟨⟩))) ?_
      refine AL.go (OpR.plain rfl (r_callId (ok_s _) en_25 rfl rfl rfl rfl (.cons (A.le_refl _) .nil) rfl (.cons rfl .nil) rfl rfl rfl (nb rfl))) ?_
      refine AL.go (OpR.plain rfl (r_not rfl (nb rfl))) ?_
      refine AL.nil ?_
      refine thenN ?_
      refine AW.condb rfl (fun h4 => ?_) (fun h4 => ?_)
      · have h4n := h4; try simp only [dtt, dff, bqi, bqf, bni, bnf, nt1, nf1, nt0, nf0, ne_eq, ilt, ile] at h4n
        refine AW.seq ?_
        refine AW.draw ?_
        refine DW.go (OpR.plain rfl (r_build pl_37 rfl zc_37 rfl rfl (by simp only [fillC, putAt, gez, ges, if_true, and_self, Nat.reduceLeDiff, true_and, tks, tkz, tkn, dps, dpz, cap, nap, apn, lnc, lnn, zad, Nat.reduceAdd, adz]; rfl) (nb rfl))) ?_
        refine DW.go (OpR.plain rfl (r_move rfl (nb rfl) (by rintro _ ⟨⟩))) ?_
        first | refine DW.go (OpR.plain rfl (r_nilCheck rfl (.inl ⟨_, _, rfl⟩) (nb rfl))) ?_ | refine DW.go (OpR.plain rfl (r_nilCheck rfl (.inr ⟨_, rfl⟩) (nb rfl))) ?_
        first | refine DW.go (OpR.plain rfl (r_fieldAddr fo_52_3 (by decide) rfl (nb rfl))) ?_ | refine DW.go (OpR.plain rfl (r_fieldAddrp fo_52_3 (by decide) rfl (nb rfl))) ?_
        first | refine DW.go (OpR.plain rfl (r_load ti_28 rfl rfl rfl (nb rfl))) ?_ | refine DW.go (OpR.plain rfl (r_loadp ti_28 rfl rfl (nb rfl))) ?_
        refine DW.go (OpR.plain rfl (r_storeN ti_37 rfl rfl rfl rfl rfl (nb rfl) (by simp only [putAt, tks, tkz, tkn, dps, dpz, cap, nap, apn, lnc, lnn, zad, Nat.reduceAdd, adz]; rfl) (by rintro _ ⟨⟩))) ?_
        refine DW.go (OpR.plain rfl (r_assign rfl (nb rfl) (by rintro _ ⟨⟩))) ?_
        refine DW.fin mixed (by kernel_rfl) (by kernel_rfl) ?_
        refine thenN ?_
        refine AW.ret ?_
        refine thenR ?_
        refine fin_id (.inr rfl) (ends_of rfl (.cell ti_37 rfl rfl (by simp only [loaded, if_true, ler, tks, tkz, tkn, dps, dpz, cap, nap, apn, lnc, lnn, zad, Nat.reduceAdd, adz]; rfl) (.tmp rfl .nil))) ?_ .nil rfl rfl rfl rfl
        simp only [retA]
        first | rw [queryP_of (qyW_t (by assumption)) (qyG_t (by assumption))] | rw [queryP_of (qyW_t (by assumption)) (qyG_f (by assumption))] | rw [queryP_of (qyW_f (by assumption)) (qyG_t (by assumption))] | rw [queryP_of (qyW_f (by assumption)) (qyG_f (by assumption))]
        first | (rw [if_pos (by assumption)]; exact A.le_tup (.cons (A.le_agg (.cons (by first | exact C.le_refl _ | exact C.le_nil) (.cons (by first | exact C.le_refl _ | exact C.le_nil) (.cons (by first | exact C.le_refl _ | exact C.le_nil) (.cons (by first | exact C.le_refl _ | exact C.le_nil) (.cons (by first | exact C.le_refl _ | exact C.le_nil) (.cons (by first | exact C.le_refl _ | exact C.le_nil) (.cons (by first | exact C.le_refl _ | exact C.le_nil) (.cons (by first | exact C.le_refl _ | exact C.le_nil) (.cons (by first | exact C.le_refl _ | exact C.le_nil) (.cons (by first | exact C.le_refl _ | exact C.le_nil) (.cons (by first | exact C.le_refl _ | exact C.le_nil) (.cons (by first | exact C.le_refl _ | exact C.le_nil) .nil))))))))))))) (.cons (A.le_refl _) .nil))) | (rw [if_neg (by assumption)]; exact A.le_tup (.cons (A.le_agg (.cons (by first | exact C.le_refl _ | exact C.le_nil) (.cons (by first | exact C.le_refl _ | exact C.le_nil) (.cons (by first | exact C.le_refl _ | exact C.le_nil) (.cons (by first | exact C.le_refl _ | exact C.le_nil) (.cons (by first | exact C.le_refl _ | exact C.le_nil) (.cons (by first | exact C.le_refl _ | exact C.le_nil) (.cons (by first | exact C.le_refl _ | exact C.le_nil) (.cons (by first | exact C.le_refl _ | exact C.le_nil) (.cons (by first | exact C.le_refl _ | exact C.le_nil) (.cons (by first | exact C.le_refl _ | exact C.le_nil) (.cons (by first | exact C.le_refl _ | exact C.le_nil) (.cons (by first | exact C.le_refl _ | exact C.le_nil) .nil))))))))))))) (.cons (A.le_refl _) .nil)))
      · have h4n := h4; try simp only [dtt, dff, bqi, bqf, bni, bnf, nt1, nf1, nt0, nf0, ne_eq, ilt, ile] at h4n
        refine AW.skip ?_
        refine thenN ?_
        refine AW.seq ?_
        refine AW.region ?_
        first | refine AL.go (OpR.plain rfl (r_load ti_37 rfl rfl (by simp only [loaded, mpc, mpn, if_true, ler, tks, tkz, tkn, dps, dpz, cap, nap, apn, lnc, lnn, zad, Nat.reduceAdd, adz]; rfl) (nb rfl))) ?_ | refine AL.go (OpR.plain rfl (r_loadp ti_37 rfl (by simp only [loaded, mpc, mpn, if_true, ler, tks, tkz, tkn, dps, dpz, cap, nap, apn, lnc, lnn, zad, Nat.reduceAdd, adz]; rfl) (nb rfl))) ?_
        refine AL.go (OpR.plain rfl (r_storeN ti_37 rfl rfl rfl rfl rfl (nb rfl) (by simp only [putAt, tks, tkz, tkn, dps, dpz, cap, nap, apn, lnc, lnn, zad, Nat.reduceAdd, adz]; rfl) (by rintro _ ⟨⟩))) ?_
        refine AL.go (OpR.plain rfl (r_assign rfl (nb rfl) (by rintro _ ⟨⟩; rfl))) ?_
        refine AL.nil ?_
        refine thenN ?_
        refine AW.ret ?_
        refine fin_id (.inr rfl) (ends_of rfl (.cell ti_37 rfl rfl (by simp only [loaded, if_true, ler, tks, tkz, tkn, dps, dpz, cap, nap, apn, lnc, lnn, zad, Nat.reduceAdd, adz]; rfl) (.tmp rfl .nil))) ?_ .nil rfl rfl rfl rfl
        simp only [retA]
        first | rw [queryP_of (qyW_t (by assumption)) (qyG_t (by assumption))] | rw [queryP_of (qyW_t (by assumption)) (qyG_f (by assumption))] | rw [queryP_of (qyW_f (by assumption)) (qyG_t (by assumption))] | rw [queryP_of (qyW_f (by assumption)) (qyG_f (by assumption))]
        first | (rw [if_pos (by assumption)]; exact A.le_tup (.cons (A.le_agg (.cons (by first | exact C.le_refl _ | exact C.le_nil) (.cons (by first | exact C.le_refl _ | exact C.le_nil) (.cons (by first | exact C.le_refl _ | exact C.le_nil) (.cons (by first | exact C.le_refl _ | exact C.le_nil) (.cons (by first | exact C.le_refl _ | exact C.le_nil) (.cons (by first | exact C.le_refl _ | exact C.le_nil) (.cons (by first | exact C.le_refl _ | exact C.le_nil) (.cons (by first | exact C.le_refl _ | exact C.le_nil) (.cons (by first | exact C.le_refl _ | exact C.le_nil) (.cons (by first | exact C.le_refl _ | exact C.le_nil) (.cons (by first | exact C.le_refl _ | exact C.le_nil) (.cons (by first | exact C.le_refl _ | exact C.le_nil) .nil))))))))))))) (.cons (A.le_refl _) .nil))) | (rw [if_neg (by assumption)]; exact A.le_tup (.cons (A.le_agg (.cons (by first | exact C.le_refl _ | exact C.le_nil) (.cons (by first | exact C.le_refl _ | exact C.le_nil) (.cons (by first | exact C.le_refl _ | exact C.le_nil) (.cons (by first | exact C.le_refl _ | exact C.le_nil) (.cons (by first | exact C.le_refl _ | exact C.le_nil) (.cons (by first | exact C.le_refl _ | exact C.le_nil) (.cons (by first | exact C.le_refl _ | exact C.le_nil) (.cons (by first | exact C.le_refl _ | exact C.le_nil) (.cons (by first | exact C.le_refl _ | exact C.le_nil) (.cons (by first | exact C.le_refl _ | exact C.le_nil) (.cons (by first | exact C.le_refl _ | exact C.le_nil) (.cons (by first | exact C.le_refl _ | exact C.le_nil) .nil))))))))))))) (.cons (A.le_refl _) .nil)))
  · have h1n := h1; try simp only [dtt, dff, bqi, bqf, bni, bnf, nt1, nf1, nt0, nf0, ne_eq, ilt, ile] at h1n
    refine AW.skip ?_
    refine thenN ?_
    refine AW.seq ?_
    refine AW.seq ?_
    refine AW.region ?_
    refine AL.go (OpR.plain rfl (r_move rfl (nb rfl) (by rintro _ ⟨⟩))) ?_
    refine AL.go (OpR.plain rfl (r_callId (take_s _ (Good.ok (by repeat' (first | assumption | apply Good.take | apply Good.must | apply Good.name | apply Good.fail4 | apply Good.orM | apply Good.lstc))) _) en_42 rfl rfl rfl rfl (.cons (A.le_refl _) (.cons (A.le_refl _) .nil)) rfl (.cons rfl .nil) rfl rfl rfl (nb rfl))) ?_
    refine AL.nil ?_
    refine thenN ?_
    refine AW.condb rfl (fun h5 => ?_) (fun h5 => ?_)
    · have h5n := h5; try simp only [dtt, dff, bqi, bqf, bni, bnf, nt1, nf1, nt0, nf0, ne_eq, ilt, ile] at h5n
      refine AW.seq ?_
      refine AW.region ?_
      refine AL.go (OpR.plain rfl (r_move rfl (nb rfl) (by rintro _ ⟨⟩))) ?_
      refine AL.go (OpR.plain rfl (r_callId (must_s _ (Good.ok (by repeat' (first | assumption | apply Good.take | apply Good.must | apply Good.name | apply Good.fail4 | apply Good.orM | apply Good.lstc))) _) en_38 rfl rfl rfl rfl (.cons (A.le_refl _) (.cons (A.le_refl _) .nil)) rfl (.cons rfl .nil) rfl rfl rfl (nb rfl))) ?_
      refine AL.nil ?_
      refine thenN ?_
      refine AW.region ?_
      refine AL.go (OpR.plain rfl (r_move rfl (nb rfl) (by rintro _ ⟨⟩))) ?_
      refine AL.go (OpR.plain rfl (r_move rfl (nb rfl) (by rintro _ ⟨⟩))) ?_
      refine AL.go (OpR.plain rfl (r_makeFunc (xs := [.ref 0 0]) (ys := []) rfl rfl (nb rfl) (by simp))) ?_
      refine AL.go (OpR.plain rfl (r_callId (list_q 43 Pst.col 8 _ (by repeat' (first | assumption | apply Good.take | apply Good.must | apply Good.name | apply Good.fail4 | apply Good.orM | apply Good.lstc)) en_43 (fun q h => (keeps_col h).1) (fun q h => pcol_s q h.ok)) en_39 rfl rfl rfl rfl (.cons (A.le_refl _) (.cons (A.le_refl _) (.cons (A.le_of_eq rfl) .nil))) rfl (.cons rfl .nil) rfl rfl rfl (nb rfl))) ?_
      first | refine AL.go (OpR.plain rfl (r_fieldAddr fo_37_3 (by decide) rfl (nb rfl))) ?_ | refine AL.go (OpR.plain rfl (r_fieldAddrp fo_37_3 (by decide) rfl (nb rfl))) ?_
      refine AL.go (OpR.plain rfl (r_storeN ti_25 rfl rfl rfl rfl rfl (nb rfl) (by simp only [putAt, tks, tkz, tkn, dps, dpz, cap, nap, apn, lnc, lnn, zad, Nat.reduceAdd, adz]; rfl) (by rintro _ ⟨⟩))) ?_
      refine AL.nil ?_
      refine thenN ?_
      refine AW.seq ?_
      refine AW.region ?_
      refine AL.go (OpR.plain rfl (r_move rfl (nb rfl) (by rintro _ ⟨⟩))) ?_
      refine AL.go (OpR.plain rfl (r_callId (end_q _ (Good.ok (by repeat' (first | assumption | apply Good.take | apply Good.must | apply Good.name | apply Good.fail4 | apply Good.orM | apply Good.lstc)))) en_24 rfl rfl rfl rfl (.cons (A.le_refl _) .nil) rfl (.cons rfl .nil) rfl rfl rfl (nb rfl))) ?_
      refine AL.nil ?_
      refine thenN ?_
      refine AW.seq ?_
      refine AW.seq ?_
      refine AW.region ?_
      refine AL.go (OpR.plain rfl (r_move rfl (nb rfl) (by rintro _ ⟨⟩))) ?_
      refine AL.go (OpR.plain rfl (r_callId (ok_s _) en_25 rfl rfl rfl rfl (.cons (A.le_refl _) .nil) rfl (.cons rfl .nil) rfl rfl rfl (nb rfl))) ?_
      refine AL.go (OpR.plain rfl (r_not rfl (nb rfl))) ?_
      refine AL.nil ?_
      refine thenN ?_
      refine AW.condb rfl (fun h6 => ?_) (fun h6 => ?_)
      · have h6n := h6; try simp only [dtt, dff, bqi, bqf, bni, bnf, nt1, nf1, nt0, nf0, ne_eq, ilt, ile] at h6n
        refine AW.seq ?_
        refine AW.draw ?_
        refine DW.go (OpR.plain rfl (r_build pl_37 rfl zc_37 rfl rfl (by simp only [fillC, putAt, gez, ges, if_true, and_self, Nat.reduceLeDiff, true_and, tks, tkz, tkn, dps, dpz, cap, nap, apn, lnc, lnn, zad, Nat.reduceAdd, adz]; rfl) (nb rfl))) ?_
        refine DW.go (OpR.plain rfl (r_move rfl (nb rfl) (by rintro _ ⟨⟩))) ?_
        first | refine DW.go (OpR.plain rfl (r_nilCheck rfl (.inl ⟨_, _, rfl⟩) (nb rfl))) ?_ | refine DW.go (OpR.plain rfl (r_nilCheck rfl (.inr ⟨_, rfl⟩) (nb rfl))) ?_
        first | refine DW.go (OpR.plain rfl (r_fieldAddr fo_52_3 (by decide) rfl (nb rfl))) ?_ | refine DW.go (OpR.plain rfl (r_fieldAddrp fo_52_3 (by decide) rfl (nb rfl))) ?_
        first | refine DW.go (OpR.plain rfl (r_load ti_28 rfl rfl rfl (nb rfl))) ?_ | refine DW.go (OpR.plain rfl (r_loadp ti_28 rfl rfl (nb rfl))) ?_
        refine DW.go (OpR.plain rfl (r_storeN ti_37 rfl rfl rfl rfl rfl (nb rfl) (by simp only [putAt, tks, tkz, tkn, dps, dpz, cap, nap, apn, lnc, lnn, zad, Nat.reduceAdd, adz]; rfl) (by rintro _ ⟨⟩))) ?_
        refine DW.go (OpR.plain rfl (r_assign rfl (nb rfl) (by rintro _ ⟨⟩))) ?_
        refine DW.fin mixed (by kernel_rfl) (by kernel_rfl) ?_
        refine thenN ?_
        refine AW.ret ?_
        refine thenR ?_
        refine fin_id (.inr rfl) (ends_of rfl (.cell ti_37 rfl rfl (by simp only [loaded, if_true, ler, tks, tkz, tkn, dps, dpz, cap, nap, apn, lnc, lnn, zad, Nat.reduceAdd, adz]; rfl) (.tmp rfl .nil))) ?_ .nil rfl rfl rfl rfl
        simp only [retA]
        first | rw [queryP_of (qyW_t (by assumption)) (qyG_t (by assumption))] | rw [queryP_of (qyW_t (by assumption)) (qyG_f (by assumption))] | rw [queryP_of (qyW_f (by assumption)) (qyG_t (by assumption))] | rw [queryP_of (qyW_f (by assumption)) (qyG_f (by assumption))]
        first | (rw [if_pos (by assumption)]; exact A.le_tup (.cons (A.le_agg (.cons (by first | exact C.le_refl _ | exact C.le_nil) (.cons (by first | exact C.le_refl _ | exact C.le_nil) (.cons (by first | exact C.le_refl _ | exact C.le_nil) (.cons (by first | exact C.le_refl _ | exact C.le_nil) (.cons (by first | exact C.le_refl _ | exact C.le_nil) (.cons (by first | exact C.le_refl _ | exact C.le_nil) (.cons (by first | exact C.le_refl _ | exact C.le_nil) (.cons (by first | exact C.le_refl _ | exact C.le_nil) (.cons (by first | exact C.le_refl _ | exact C.le_nil) (.cons (by first | exact C.le_refl _ | exact C.le_nil) (.cons (by first | exact C.le_refl _ | exact C.le_nil) (.cons (by first | exact C.le_refl _ | exact C.le_nil) .nil))))))))))))) (.cons (A.le_refl _) .nil))) | (rw [if_neg (by assumption)]; exact A.le_tup (.cons (A.le_agg (.cons (by first | exact C.le_refl _ | exact C.le_nil) (.cons (by first | exact C.le_refl _ | exact C.le_nil) (.cons (by first | exact C.le_refl _ | exact C.le_nil) (.cons (by first | exact C.le_refl _ | exact C.le_nil) (.cons (by first | exact C.le_refl _ | exact C.le_nil) (.cons (by first | exact C.le_refl _ | exact C.le_nil) (.cons (by first | exact C.le_refl _ | exact C.le_nil) (.cons (by first | exact C.le_refl _ | exact C.le_nil) (.cons (by first | exact C.le_refl _ | exact C.le_nil) (.cons (by first | exact C.le_refl _ | exact C.le_nil) (.cons (by first | exact C.le_refl _ | exact C.le_nil) (.cons (by first | exact C.le_refl _ | exact C.le_nil) .nil))))))))))))) (.cons (A.le_refl _) .nil)))
      · have h6n := h6; try simp only [dtt, dff, bqi, bqf, bni, bnf, nt1, nf1, nt0, nf0, ne_eq, ilt, ile] at h6n
        refine AW.skip ?_
        refine thenN ?_
        refine AW.seq ?_
        refine AW.region ?_
        first | refine AL.go (OpR.plain rfl (r_load ti_37 rfl rfl (by simp only [loaded, mpc, mpn, if_true, ler, tks, tkz, tkn, dps, dpz, cap, nap, apn, lnc, lnn, zad, Nat.reduceAdd, adz]; rfl) (nb rfl))) ?_ | refine AL.go (OpR.plain rfl (r_loadp ti_37 rfl (by simp only [loaded, mpc, mpn, if_true, ler, tks, tkz, tkn, dps, dpz, cap, nap, apn, lnc, lnn, zad, Nat.reduceAdd, adz]; rfl) (nb rfl))) ?_
        refine AL.go (OpR.plain rfl (r_storeN ti_37 rfl rfl rfl rfl rfl (nb rfl) (by simp only [putAt, tks, tkz, tkn, dps, dpz, cap, nap, apn, lnc, lnn, zad, Nat.reduceAdd, adz]; rfl) (by rintro _ ⟨⟩))) ?_
        refine AL.go (OpR.plain rfl (r_assign rfl (nb rfl) (by rintro _ ⟨⟩; rfl))) ?_
        refine AL.nil ?_
        refine thenN ?_
        refine AW.ret ?_
        refine fin_id (.inr rfl) (ends_of rfl (.cell ti_37 rfl rfl (by simp only [loaded, if_true, ler, tks, tkz, tkn, dps, dpz, cap, nap, apn, lnc, lnn, zad, Nat.reduceAdd, adz]; rfl) (.tmp rfl .nil))) ?_ .nil rfl rfl rfl rfl
        simp only [retA]
        first | rw [queryP_of (qyW_t (by assumption)) (qyG_t (by assumption))] | rw [queryP_of (qyW_t (by assumption)) (qyG_f (by assumption))] | rw [queryP_of (qyW_f (by assumption)) (qyG_t (by assumption))] | rw [queryP_of (qyW_f (by assumption)) (qyG_f (by assumption))]
        first | (rw [if_pos (by assumption)]; exact A.le_tup (.cons (A.le_agg (.cons (by first | exact C.le_refl _ | exact C.le_nil) (.cons (by first | exact C.le_refl _ | exact C.le_nil) (.cons (by first | exact C.le_refl _ | exact C.le_nil) (.cons (by first | exact C.le_refl _ | exact C.le_nil) (.cons (by first | exact C.le_refl _ | exact C.le_nil) (.cons (by first | exact C.le_refl _ | exact C.le_nil) (.cons (by first | exact C.le_refl _ | exact C.le_nil) (.cons (by first | exact C.le_refl _ | exact C.le_nil) (.cons (by first | exact C.le_refl _ | exact C.le_nil) (.cons (by first | exact C.le_refl _ | exact C.le_nil) (.cons (by first | exact C.le_refl _ | exact C.le_nil) (.cons (by first | exact C.le_refl _ | exact C.le_nil) .nil))))))))))))) (.cons (A.le_refl _) .nil))) | (rw [if_neg (by assumption)]; exact A.le_tup (.cons (A.le_agg (.cons (by first | exact C.le_refl _ | exact C.le_nil) (.cons (by first | exact C.le_refl _ | exact C.le_nil) (.cons (by first | exact C.le_refl _ | exact C.le_nil) (.cons (by first | exact C.le_refl _ | exact C.le_nil) (.cons (by first | exact C.le_refl _ | exact C.le_nil) (.cons (by first | exact C.le_refl _ | exact C.le_nil) (.cons (by first | exact C.le_refl _ | exact C.le_nil) (.cons (by first | exact C.le_refl _ | exact C.le_nil) (.cons (by first | exact C.le_refl _ | exact C.le_nil) (.cons (by first | exact C.le_refl _ | exact C.le_nil) (.cons (by first | exact C.le_refl _ | exact C.le_nil) (.cons (by first | exact C.le_refl _ | exact C.le_nil) .nil))))))))))))) (.cons (A.le_refl _) .nil)))
    · have h5n := h5; try simp only [dtt, dff, bqi, bqf, bni, bnf, nt1, nf1, nt0, nf0, ne_eq, ilt, ile] at h5n
      refine AW.skip ?_
      refine thenN ?_
      refine AW.seq ?_
      refine AW.region ?_
      refine AL.go (OpR.plain rfl (r_move rfl (nb rfl) (by rintro _ ⟨⟩))) ?_
      refine AL.go (OpR.plain rfl (r_callId (end_q _ (Good.ok (by repeat' (first | assumption | apply Good.take | apply Good.must | apply Good.name | apply Good.fail4 | apply Good.orM | apply Good.lstc)))) en_24 rfl rfl rfl rfl (.cons (A.le_refl _) .nil) rfl (.cons rfl .nil) rfl rfl rfl (nb rfl))) ?_
      refine AL.nil ?_
      refine thenN ?_
      refine AW.seq ?_
      refine AW.seq ?_
      refine AW.region ?_
      refine AL.go (OpR.plain rfl (r_move rfl (nb rfl) (by rintro _ ⟨⟩))) ?_
      refine AL.go (OpR.plain rfl (r_callId (ok_s _) en_25 rfl rfl rfl rfl (.cons (A.le_refl _) .nil) rfl (.cons rfl .nil) rfl rfl rfl (nb rfl))) ?_
      refine AL.go (OpR.plain rfl (r_not rfl (nb rfl))) ?_
      refine AL.nil ?_
      refine thenN ?_
      refine AW.condb rfl (fun h7 => ?_) (fun h7 => ?_)
      · have h7n := h7; try simp only [dtt, dff, bqi, bqf, bni, bnf, nt1, nf1, nt0, nf0, ne_eq, ilt, ile] at h7n
        refine AW.seq ?_
        refine AW.draw ?_
        refine DW.go (OpR.plain rfl (r_build pl_37 rfl zc_37 rfl rfl (by simp only [fillC, putAt, gez, ges, if_true, and_self, Nat.reduceLeDiff, true_and, tks, tkz, tkn, dps, dpz, cap, nap, apn, lnc, lnn, zad, Nat.reduceAdd, adz]; rfl) (nb rfl))) ?_
        refine DW.go (OpR.plain rfl (r_move rfl (nb rfl) (by rintro _ ⟨⟩))) ?_
        first | refine DW.go (OpR.plain rfl (r_nilCheck rfl (.inl ⟨_, _, rfl⟩) (nb rfl))) ?_ | refine DW.go (OpR.plain rfl (r_nilCheck rfl (.inr ⟨_, rfl⟩) (nb rfl))) ?_
        first | refine DW.go (OpR.plain rfl (r_fieldAddr fo_52_3 (by decide) rfl (nb rfl))) ?_ | refine DW.go (OpR.plain rfl (r_fieldAddrp fo_52_3 (by decide) rfl (nb rfl))) ?_
        first | refine DW.go (OpR.plain rfl (r_load ti_28 rfl rfl rfl (nb rfl))) ?_ | refine DW.go (OpR.plain rfl (r_loadp ti_28 rfl rfl (nb rfl))) ?_
        refine DW.go (OpR.plain rfl (r_storeN ti_37 rfl rfl rfl rfl rfl (nb rfl) (by simp only [putAt, tks, tkz, tkn, dps, dpz, cap, nap, apn, lnc, lnn, zad, Nat.reduceAdd, adz]; rfl) (by rintro _ ⟨⟩))) ?_
        refine DW.go (OpR.plain rfl (r_assign rfl (nb rfl) (by rintro _ ⟨⟩))) ?_
        refine DW.fin mixed (by kernel_rfl) (by kernel_rfl) ?_
        refine thenN ?_
        refine AW.ret ?_
        refine thenR ?_
        refine fin_id (.inr rfl) (ends_of rfl (.cell ti_37 rfl rfl (by simp only [loaded, if_true, ler, tks, tkz, tkn, dps, dpz, cap, nap, apn, lnc, lnn, zad, Nat.reduceAdd, adz]; rfl) (.tmp rfl .nil))) ?_ .nil rfl rfl rfl rfl
        simp only [retA]
        first | rw [queryP_of (qyW_t (by assumption)) (qyG_t (by assumption))] | rw [queryP_of (qyW_t (by assumption)) (qyG_f (by assumption))] | rw [queryP_of (qyW_f (by assumption)) (qyG_t (by assumption))] | rw [queryP_of (qyW_f (by assumption)) (qyG_f (by assumption))]
        first | (rw [if_pos (by assumption)]; exact A.le_tup (.cons (A.le_agg (.cons (by first | exact C.le_refl _ | exact C.le_nil) (.cons (by first | exact C.le_refl _ | exact C.le_nil) (.cons (by first | exact C.le_refl _ | exact C.le_nil) (.cons (by first | exact C.le_refl _ | exact C.le_nil) (.cons (by first | exact C.le_refl _ | exact C.le_nil) (.cons (by first | exact C.le_refl _ | exact C.le_nil) (.cons (by first | exact C.le_refl _ | exact C.le_nil) (.cons (by first | exact C.le_refl _ | exact C.le_nil) (.cons (by first | exact C.le_refl _ | exact C.le_nil) (.cons (by first | exact C.le_refl _ | exact C.le_nil) (.cons (by first | exact C.le_refl _ | exact C.le_nil) (.cons (by first | exact C.le_refl _ | exact C.le_nil) .nil))))))))))))) (.cons (A.le_refl _) .nil))) | (rw [if_neg (by assumption)]; exact A.le_tup (.cons (A.le_agg (.cons (by first | exact C.le_refl _ | exact C.le_nil) (.cons (by first | exact C.le_refl _ | exact C.le_nil) (.cons (by first | exact C.le_refl _ | exact C.le_nil) (.cons (by first | exact C.le_refl _ | exact C.le_nil) (.cons (by first | exact C.le_refl _ | exact C.le_nil) (.cons (by first | exact C.le_refl _ | exact C.le_nil) (.cons (by first | exact C.le_refl _ | exact C.le_nil) (.cons (by first | exact C.le_refl _ | exact C.le_nil) (.cons (by first | exact C.le_refl _ | exact C.le_nil) (.cons (by first | exact C.le_refl _ | exact C.le_nil) (.cons (by first | exact C.le_refl _ | exact C.le_nil) (.cons (by first | exact C.le_refl _ | exact C.le_nil) .nil))))))))))))) (.cons (A.le_refl _) .nil)))
      · have h7n := h7; try simp only [dtt, dff, bqi, bqf, bni, bnf, nt1, nf1, nt0, nf0, ne_eq, ilt, ile] at h7n
        refine AW.skip ?_
        refine thenN ?_
        refine AW.seq ?_
        refine AW.region ?_
        first | refine AL.go (OpR.plain rfl (r_load ti_37 rfl rfl (by simp only [loaded, mpc, mpn, if_true, ler, tks, tkz, tkn, dps, dpz, cap, nap, apn, lnc, lnn, zad, Nat.reduceAdd, adz]; rfl) (nb rfl))) ?_ | refine AL.go (OpR.plain rfl (r_loadp ti_37 rfl (by simp only [loaded, mpc, mpn, if_true, ler, tks, tkz, tkn, dps, dpz, cap, nap, apn, lnc, lnn, zad, Nat.reduceAdd, adz]; rfl) (nb rfl))) ?_
        refine AL.go (OpR.plain rfl (r_storeN ti_37 rfl rfl rfl rfl rfl (nb rfl) (by simp only [putAt, tks, tkz, tkn, dps, dpz, cap, nap, apn, lnc, lnn, zad, Nat.reduceAdd, adz]; rfl) (by rintro _ ⟨⟩))) ?_
        refine AL.go (OpR.plain rfl (r_assign rfl (nb rfl) (by rintro _ ⟨⟩; rfl))) ?_
        refine AL.nil ?_
        refine thenN ?_
        refine AW.ret ?_
        refine fin_id (.inr rfl) (ends_of rfl (.cell ti_37 rfl rfl (by simp only [loaded, if_true, ler, tks, tkz, tkn, dps, dpz, cap, nap, apn, lnc, lnn, zad, Nat.reduceAdd, adz]; rfl) (.tmp rfl .nil))) ?_ .nil rfl rfl rfl rfl
        simp only [retA]
        first | rw [queryP_of (qyW_t (by assumption)) (qyG_t (by assumption))] | rw [queryP_of (qyW_t (by assumption)) (qyG_f (by assumption))] | rw [queryP_of (qyW_f (by assumption)) (qyG_t (by assumption))] | rw [queryP_of (qyW_f (by assumption)) (qyG_f (by assumption))]
        first | (rw [if_pos (by assumption)]; exact A.le_tup (.cons (A.le_agg (.cons (by first | exact C.le_refl _ | exact C.le_nil) (.cons (by first | exact C.le_refl _ | exact C.le_nil) (.cons (by first | exact C.le_refl _ | exact C.le_nil) (.cons (by first | exact C.le_refl _ | exact C.le_nil) (.cons (by first | exact C.le_refl _ | exact C.le_nil) (.cons (by first | exact C.le_refl _ | exact C.le_nil) (.cons (by first | exact C.le_refl _ | exact C.le_nil) (.cons (by first | exact C.le_refl _ | exact C.le_nil) (.cons (by first | exact C.le_refl _ | exact C.le_nil) (.cons (by first | exact C.le_refl _ | exact C.le_nil) (.cons (by first | exact C.le_refl _ | exact C.le_nil) (.cons (by first | exact C.le_refl _ | exact C.le_nil) .nil))))))))))))) (.cons (A.le_refl _) .nil))) | (rw [if_neg (by assumption)]; exact A.le_tup (.cons (A.le_agg (.cons (by first | exact C.le_refl _ | exact C.le_nil) (.cons (by first | exact C.le_refl _ | exact C.le_nil) (.cons (by first | exact C.le_refl _ | exact C.le_nil) (.cons (by first | exact C.le_refl _ | exact C.le_nil) (.cons (by first | exact C.le_refl _ | exact C.le_nil) (.cons (by first | exact C.le_refl _ | exact C.le_nil) (.cons (by first | exact C.le_refl _ | exact C.le_nil) (.cons (by first | exact C.le_refl _ | exact C.le_nil) (.cons (by first | exact C.le_refl _ | exact C.le_nil) (.cons (by first | exact C.le_refl _ | exact C.le_nil) (.cons (by first | exact C.le_refl _ | exact C.le_nil) (.cons (by first | exact C.le_refl _ | exact C.le_nil) .nil))))))))))))) (.cons (A.le_refl _) .nil)))

end Go.Par
