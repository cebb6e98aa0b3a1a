import Derived.Test.YtihcfphmikebgaaDoorPrt2
namespace Go.Par
open Go Go.Am Go.Proofs Go.RowKit
set_option linter.unusedVariables false
set_option linter.unusedSimpArgs false

theorem en_68 : enters Tryd.prog 68 = true := by kernel_rfl
theorem un_25 : Tryd.prog.underlying 25 = some (TypeDesc.slice 27) := by kernel_rfl

theorem clone_s (rows : List (List D)) (hk : ∀ r ∈ rows, r.length = 9) (hn : rows.length ≤ 1000000) : Am.Spec Tryd.prog 68 [A.c (.d (.sl true rows))] [] (A.c (.d (.sl false rows))) [] := by
  refine spec_ofN (n := 8) Tryd.func68 rfl rfl (nb rfl) ?_
  show AW _ _ (⟨[(0, A.c (.d (.sl true rows)))], [], []⟩ : St) _
  refine AW.seq ?_
  refine AW.region ?_
  refine AL.go (OpR.plain rfl (r_assign rfl (nb rfl) (by rintro _ ⟨⟩; rfl))) ?_
  refine AL.nil ?_
  refine thenN ?_
  refine AW.seq ?_
  refine AW.seq ?_
  refine AW.region ?_
  refine AL.go (OpR.plain rfl (r_move rfl (nb rfl) (by rintro _ ⟨⟩))) ?_
  refine AL.go (OpR.plain rfl (r_sliceNilF un_25 rfl (by first | exact .inl ⟨_, rfl⟩ | exact .inr ⟨_, _, _, rfl⟩) rfl (nb rfl))) ?_
  refine AL.nil ?_
  refine thenN ?_
  refine AW.condF rfl (rfl) ?_
  refine AW.skip ?_
  refine thenN ?_
  refine AW.seq ?_
  refine AW.region ?_
  refine AL.go (OpR.plain rfl (r_buildOwn 101 un_25 ti_27 rfl (nb rfl))) ?_
  refine AL.go (OpR.plain rfl (r_move rfl (nb rfl) (by rintro _ ⟨⟩))) ?_
  first | refine AL.go (OpR.plain rfl (r_append 103 un_25 ti_27 rfl rfl rfl rfl (by first | exact .sl | exact .own | exact .nil) rfl (by first | simp | (intro r hr; simp at hr; simp [hr]) | assumption) (by first | simp | (intro r hr; simp at hr; simp [hr]) | assumption) rfl (by first | (simp [maxLen]; omega) | (simp; omega)) (by first | (simp [maxLen]; omega) | (simp; omega)) (nb rfl))) ?_ | refine AL.go (OpR.plain rfl (r_appendNil 102 103 un_25 ti_27 rfl rfl rfl (by first | exact .sl | exact .own | exact .nil) rfl (by first | simp | (intro r hr; simp at hr; simp [hr]) | assumption) rfl rfl (by decide) (by first | (simp [maxLen]; omega) | (simp; omega)) (by first | (simp [maxLen]; omega) | (simp; omega)) (nb rfl))) ?_
  refine AL.go (OpR.plain rfl (r_assign rfl (nb rfl) (by rintro _ ⟨⟩))) ?_
  refine AL.nil ?_
  refine thenN ?_
  refine AW.ret ?_
  refine fin_id (.inr rfl) (ends_of rfl (.tmp rfl .nil)) ?_ .nil rfl rfl rfl rfl
  simp only [retA]
  exact A.le_own

theorem of_s (op : Int) (l : List Ex) (hl : l.length ≤ 1000000) : Am.Spec Tryd.prog 55 [A.i64 op, A.c (.d (.sl true (Ex.rows l)))] [] (exA (exOf op l)) [] := by
  refine spec_ofN (n := 9) Tryd.func55 rfl rfl (nb rfl) ?_
  show AW _ _ (⟨[(0, A.i64 op), (1, A.c (.d (.sl true (Ex.rows l))))], [], []⟩ : St) _
  refine AW.seq ?_
  refine AW.region ?_
  refine AL.go (OpR.plain rfl (r_alloc 101 ti_27 zc_27 rfl rfl (nb rfl))) ?_
  refine AL.nil ?_
  refine thenN ?_
  refine AW.seq ?_
  refine AW.region ?_
  refine AL.go (OpR.plain rfl (r_move rfl (nb rfl) (by rintro _ ⟨⟩))) ?_
  refine AL.go (OpR.plain rfl (r_move rfl (nb rfl) (by rintro _ ⟨⟩))) ?_
  refine AL.go (OpR.plain rfl (r_callFun (clone_s _ rows_len (by rw [rows_length]; omega)) en_68 rfl rfl rfl rfl (.cons (A.le_refl _) .nil) rfl (nb rfl))) ?_
  refine AL.go (OpR.plain rfl (r_build pl_27 rfl zc_27 rfl rfl (by simp only [fillC, putAt, gez, ges, if_true, and_self, Nat.reduceLeDiff, true_and, tks, tkz, tkn, dps, dpz, cap, nap, apn, lnc, lnn, zad, Nat.reduceAdd, adz]; rfl) (nb rfl))) ?_
  refine AL.go (OpR.plain rfl (r_storeN ti_27 rfl rfl rfl rfl rfl (nb rfl) (by simp only [putAt, tks, tkz, tkn, dps, dpz, cap, nap, apn, lnc, lnn, zad, Nat.reduceAdd, adz]; rfl) (by rintro _ ⟨⟩))) ?_
  refine AL.nil ?_
  refine thenN ?_
  refine AW.ret ?_
  refine fin_id (.inr rfl) (ends_of rfl (.cell ti_27 rfl rfl (by simp only [loaded, if_true, ler, tks, tkz, tkn, dps, dpz, cap, nap, apn, lnc, lnn, zad, Nat.reduceAdd, adz]; rfl) .nil)) ?_ .nil rfl rfl rfl rfl
  simp only [retA]
  exact A.le_agg (.cons (by first | exact C.le_refl _ | exact C.le_nil | exact C.le_nn | exact C.le_own) (.cons (by first | exact C.le_refl _ | exact C.le_nil | exact C.le_nn | exact C.le_own) (.cons (by first | exact C.le_refl _ | exact C.le_nil | exact C.le_nn | exact C.le_own) (.cons (by first | exact C.le_refl _ | exact C.le_nil | exact C.le_nn | exact C.le_own) (.cons (by first | exact C.le_refl _ | exact C.le_nil | exact C.le_nn | exact C.le_own) (.cons (by first | exact C.le_refl _ | exact C.le_nil | exact C.le_nn | exact C.le_own) (.cons (by first | exact C.le_refl _ | exact C.le_nil | exact C.le_nn | exact C.le_own) (.cons (by first | exact C.le_refl _ | exact C.le_nil | exact C.le_nn | exact C.le_own) (.cons (by first | exact C.le_refl _ | exact C.le_nil | exact C.le_nn | exact C.le_own) .nil)))))))))









end Go.Par
