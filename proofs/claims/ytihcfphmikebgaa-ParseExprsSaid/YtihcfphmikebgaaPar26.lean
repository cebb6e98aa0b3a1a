import Derived.Test.YtihcfphmikebgaaPar25
namespace Go.Par
open Go Go.Am Go.Proofs Go.RowKit
set_option linter.unusedVariables false
set_option linter.unusedSimpArgs false

/-- Without an error the place is inside the list, whose last token ends it. -/
def Ne (p : Pst) : Prop := p.e = 0 → p.at_ < p.l.length ∧ ∀ t, p.l.getLast? = some t → t.kind = 0
theorem is_k {p : Pst} {s : ByteArray} (h : p.is s = true) : p.tok.kind ≠ 0 := by
  simp only [Pst.is, Bool.and_eq_true, Bool.or_eq_true, bqi] at h
  rcases h.1.2 with h | h <;> rw [h] <;> decide
theorem ne_step {p : Pst} (h : Ne p) (hk : p.tok.kind ≠ 0) : Ne p.step := fun he => by
  have he' : p.e = 0 := he
  obtain ⟨a, b⟩ := h he'
  refine ⟨?_, b⟩
  show p.at_ + 1 < p.l.length
  rcases Nat.lt_or_ge (p.at_ + 1) p.l.length with c | c
  · exact c
  · exfalso
    have ht : p.tok = p.l[p.at_] := by
      unfold Pst.tok
      rw [if_pos ⟨he', a⟩, List.getD_eq_getElem?_getD, List.getElem?_eq_getElem a]; rfl
    have hl : p.l.getLast? = some (p.l[p.at_]) := by
      rw [List.getLast?_eq_getElem?]
      have e : p.l.length - 1 = p.at_ := by omega
      rw [e, List.getElem?_eq_getElem a]
    exact hk (by rw [ht]; exact b _ hl)
theorem ne_fail (p : Pst) {e : Int} (h0 : e ≠ 0) : Ne (p.fail e) := fun he => by
  exfalso
  unfold Pst.fail at he
  by_cases hc : p.e = 0
  · rw [if_pos hc] at he; exact h0 he
  · rw [if_neg hc] at he; exact hc he
theorem ne_take {p : Pst} (h : Ne p) (s : ByteArray) : Ne (p.take s) := by
  unfold Pst.take
  split
  · rename_i hs; exact ne_step h (is_k hs)
  · exact h
theorem ne_must {p : Pst} (h : Ne p) (s : ByteArray) : Ne (p.must s) := by
  unfold Pst.must
  split
  · rename_i hs; exact ne_step h (is_k hs)
  · exact ne_fail p (by decide)
theorem ne_name {p : Pst} (h : Ne p) : Ne p.name.2 := by
  unfold Pst.name
  split
  · rename_i hs; exact ne_step h (by rw [hs]; decide)
  · exact ne_fail p (by decide)
theorem ne_col {p : Pst} (h : Ne p) : Ne p.col.2 := by
  unfold Pst.col
  split
  · rename_i hs; exact ne_name (ne_step (ne_name h) (is_k hs))
  · exact ne_name h
theorem ne_down {p : Pst} (h : Ne p) : Ne p.down := by
  unfold Pst.down
  simp only
  split
  · exact ne_fail _ (by decide)
  · exact h
theorem ne_up {p : Pst} (h : Ne p) : Ne p.up := h
theorem R_ne : ∀ (n : Nat) (job : Job) (p : Pst), Ne p → Ne (R n job p).2
  | 0, job, p, h => ne_fail p (by decide)
  | n + 1, .loop l e, p, h => by
    rw [R]
    split
    · exact h
    · rename_i s hs
      split at hs
      · have hi := List.find?_some hs
        exact R_ne n _ _ (R_ne n _ _ (ne_step h (is_k hi)))
      · cases hs
  | n + 1, .parse .not, p, h => by
    rw [R]
    split
    · exact ne_up (R_ne n _ _ (ne_take (ne_down h) _))
    · exact R_ne n _ _ h
  | n + 1, .parse .test, p, h => by
    have hr := R_ne n (.parse .sum) p h
    rw [R]
    generalize R n (.parse .sum) p = r at hr ⊢
    split
    · rename_i s hs
      exact R_ne n _ _ (ne_step hr (is_k (List.find?_some hs)))
    · split
      · rename_i hi
        exact ne_must (ne_take (ne_step hr (is_k hi)) _) _
      · exact hr
  | n + 1, .parse .atom, p, h => by
    rw [R]
    split
    · rename_i hk; exact ne_step h (by rw [hk]; decide)
    · split
      · rename_i hk; exact ne_step h (by rw [hk]; decide)
      · split
        · rename_i hi; exact ne_step h (is_k hi)
        · split
          · exact ne_up (ne_must (R_ne n _ _ (ne_take (ne_down h) _)) _)
          · exact ne_col h
  | n + 1, .parse .or, p, h => R_ne n _ _ (R_ne n _ _ h)
  | n + 1, .parse .and, p, h => R_ne n _ _ (R_ne n _ _ h)
  | n + 1, .parse .sum, p, h => R_ne n _ _ (R_ne n _ _ h)
  | n + 1, .parse .prod, p, h => R_ne n _ _ (R_ne n _ _ h)
theorem allL_last {s : ByteArray} : ∀ (n a : Nat) (acc : List Tok), (allL s n a acc).2 = 0 → (allL s n a acc).1 ≠ [] ∧ ∀ t, (allL s n a acc).1.getLast? = some t → t.kind = 0
  | 0, a, acc, h => by simp [allL] at h
  | n + 1, a, acc, h => by
    rw [allL] at h ⊢
    split at h
    · rename_i he; exact absurd h he
    · rename_i he
      rw [if_neg he]
      split at h
      · rename_i hk
        rw [if_pos hk]
        refine ⟨by simp, fun t ht => ?_⟩
        simp at ht
        rw [← ht]; exact hk
      · rename_i hk
        rw [if_neg hk]
        exact allL_last n _ _ h
theorem p0_ne (s : ByteArray) : Ne (p0 s) := fun he => by
  obtain ⟨a, b⟩ := allL_last (s := s) 1000 0 [] he
  refine ⟨?_, b⟩
  show 0 < (allM s).1.length
  exact List.length_pos_iff.2 a
/-- The two tell the same of any text. -/
theorem exprs_same (n : Nat) (s : ByteArray) : exprM n s = rexprM n s := by
  have hg := p0_good s
  have a := agree n (.parse .or) (p0 s) (p0 s) hg hg ⟨rfl, rfl, rfl⟩
  have hne := R_ne n (.parse .or) (p0 s) (p0_ne s)
  have hd : (p0 s).deep = 0 := rfl
  rw [hd] at a
  unfold exprM rexprM
  generalize R n (.parse .or) (p0 s) = r at a hne ⊢
  generalize RR n (.parse .or) 0 (p0 s) = r' at a ⊢
  by_cases he : r.2.e = 0
  · obtain ⟨e1, sm⟩ := a.ok he
    have hf : r.2.fin.e = r'.2.rfin.e := by
      have hlt := (hne he).1
      have e2 : r'.2.e = 0 := by rw [← sm.e]; exact he
      have hlt' : r'.2.at_ < r'.2.l.length := by rw [← sm.at_, ← sm.l]; exact hlt
      have hk : r'.2.kindR = r.2.tok.kind := by
        rw [sm.tok]
        unfold Pst.kindR Pst.tok
        rw [if_pos ⟨e2, hlt'⟩, if_pos ⟨e2, hlt'⟩]
      unfold Pst.fin Pst.rfin
      rw [hk]
      by_cases hc : r.2.tok.kind ≠ 0
      · rw [if_pos ⟨he, hc⟩, if_pos hc]; exact (sm.fail 1).e
      · rw [if_neg (fun hh => hc hh.2), if_neg hc]; exact sm.e
    rw [← hf, e1]
  · have he' : ¬ r'.2.e = 0 := by rw [← a.e]; exact he
    have f1 : r.2.fin.e = r.2.e := by
      unfold Pst.fin; rw [if_neg (fun hh => he hh.1)]
    have f2 : r'.2.rfin.e = r'.2.e := by
      unfold Pst.rfin
      split
      · unfold Pst.fail; rw [if_neg he']
      · rfl
    rw [f1, f2, if_neg he, if_neg he', a.e]

end Go.Par
