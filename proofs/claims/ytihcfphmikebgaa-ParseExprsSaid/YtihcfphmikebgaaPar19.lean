import Derived.Test.YtihcfphmikebgaaPar18
namespace Go.Par
open Go Go.Am Go.Proofs Go.RowKit
set_option linter.unusedVariables false
set_option linter.unusedSimpArgs false

/-- What the document's functions compute, fuel being enough: the depth is an argument. -/
def RR : Nat → Job → Nat → Pst → Ex × Pst
  | 0, _, _, p => (exZero, p.fail 1)
  | n + 1, .loop l e, d, p => match l.signs.find? p.is with
    | none => (e, p)
    | some s => RR n (.loop l (exOf (opOf s) [e, (RR n (.parse l.sub) d p.step).1])) d (RR n (.parse l.sub) d p.step).2
  | n + 1, .parse .not, d, p => if p.is bNot then (if d = 50 then (exZero, p.fail 4) else (exOf 12 [(RR n (.parse .not) (d + 1) p.step).1], (RR n (.parse .not) (d + 1) p.step).2)) else RR n (.parse .test) d p
  | n + 1, .parse .test, d, p => match cmps.find? (RR n (.parse .sum) d p).2.is with
    | some s => (exOf (opOf s) [(RR n (.parse .sum) d p).1, (RR n (.parse .sum) d (RR n (.parse .sum) d p).2.step).1], (RR n (.parse .sum) d (RR n (.parse .sum) d p).2.step).2)
    | none => if (RR n (.parse .sum) d p).2.is bIs then (exOf (if (RR n (.parse .sum) d p).2.step.is bNot then 14 else 13) [(RR n (.parse .sum) d p).1], ((RR n (.parse .sum) d p).2.step.take bNot).must bNull) else RR n (.parse .sum) d p
  | n + 1, .parse .atom, d, p => if p.tok.kind = 3 then (exVal ⟨1, p.tok.num, bs0⟩, p.step) else if p.tok.kind = 4 then (exVal ⟨2, 0, p.tok.text⟩, p.step) else if p.is bNull then (exVal Val.null, p.step)
    else if p.is bOpen then (if d = 50 then (exZero, p.fail 4) else ((RR n (.parse .or) (d + 1) p.step).1, (RR n (.parse .or) (d + 1) p.step).2.must bClose)) else p.col
  | n + 1, .parse l, d, p => RR n (.loop l (RR n (.parse l.sub) d p).1) d (RR n (.parse l.sub) d p).2
theorem rchain_keeps {n d : Nat} {l : Lv} {p : Pst} (hr : Keeps p (RR n (.parse l.sub) d p).2 ∧ (∀ lv, Job.parse l.sub = .parse lv → (RR n (.parse l.sub) d p).2.e = 0 → p.at_ < (RR n (.parse l.sub) d p).2.at_))
    (hl : Keeps (RR n (.parse l.sub) d p).2 (RR n (.loop l (RR n (.parse l.sub) d p).1) d (RR n (.parse l.sub) d p).2).2) :
    Keeps p (RR n (.loop l (RR n (.parse l.sub) d p).1) d (RR n (.parse l.sub) d p).2).2 ∧ (∀ lv : Lv, Job.parse l = .parse lv → (RR n (.loop l (RR n (.parse l.sub) d p).1) d (RR n (.parse l.sub) d p).2).2.e = 0 → p.at_ < (RR n (.loop l (RR n (.parse l.sub) d p).1) d (RR n (.parse l.sub) d p).2).2.at_) := by
  refine ⟨hr.1.trans hl, fun _ _ he => ?_⟩
  have h0 : (RR n (.parse l.sub) d p).2.e = 0 := by
    by_cases hc : (RR n (.parse l.sub) d p).2.e = 0
    · exact hc
    · rw [hl.err hc] at he; exact he
  have a := hr.2 _ rfl h0
  have b := hl.at_
  omega
theorem RR_keeps : ∀ (n : Nat) (job : Job) (d : Nat) (p : Pst), Good p → Keeps p (RR n job d p).2 ∧ (∀ lv, job = .parse lv → (RR n job d p).2.e = 0 → p.at_ < (RR n job d p).2.at_)
  | 0, job, d, p, h => by
    have := keeps_fail h 1 (by decide)
    exact ⟨this.1, fun _ _ hh => absurd hh this.2⟩
  | n + 1, .loop l e, d, p, h => by
    refine ⟨?_, fun lv hj => by cases hj⟩
    rw [RR]
    split
    · exact Keeps.refl h
    · rename_i s hs
      have hi := List.find?_some hs
      have h1 := keeps_step h (Pst.is_lt hi) (Pst.is_e hi)
      have h2 := (RR_keeps n (.parse l.sub) d p.step h1.good).1
      exact h1.trans (h2.trans (RR_keeps n _ d _ h2.good).1)
  | n + 1, .parse .not, d, p, h => by
    have key : Keeps p (RR (n + 1) (.parse .not) d p).2 ∧ ((RR (n + 1) (.parse .not) d p).2.e = 0 → p.at_ < (RR (n + 1) (.parse .not) d p).2.at_) := by
      rw [RR]
      split
      · rename_i hs
        split
        · exact ⟨(keeps_fail h 4 (by decide)).1, fun hh => absurd hh (keeps_fail h 4 (by decide)).2⟩
        · have hk := keeps_step h (Pst.is_lt hs) (Pst.is_e hs)
          have hr := RR_keeps n (.parse .not) (d + 1) p.step hk.good
          refine ⟨hk.trans hr.1, fun he => ?_⟩
          have a := hr.1.at_
          have b : p.step.at_ = p.at_ + 1 := rfl
          show p.at_ < (RR n (.parse .not) (d + 1) p.step).2.at_
          omega
      · have hr := RR_keeps n (.parse .test) d p h
        exact ⟨hr.1, hr.2 .test rfl⟩
    exact ⟨key.1, fun _ _ => key.2⟩
  | n + 1, .parse .test, d, p, h => by
    have key : Keeps p (RR (n + 1) (.parse .test) d p).2 ∧ ((RR (n + 1) (.parse .test) d p).2.e = 0 → p.at_ < (RR (n + 1) (.parse .test) d p).2.at_) := by
      have hr := RR_keeps n (.parse .sum) d p h
      have hr2 := hr.2 .sum rfl
      rw [RR]
      generalize RR n (.parse .sum) d p = r at hr hr2 ⊢
      have hlt : r.2.e = 0 → p.at_ < r.2.at_ := hr2
      split
      · rename_i s hs
        have hi := List.find?_some hs
        have h1 := keeps_step hr.1.good (Pst.is_lt hi) (Pst.is_e hi)
        have h2 := RR_keeps n (.parse .sum) d r.2.step h1.good
        refine ⟨hr.1.trans (h1.trans h2.1), fun _ => ?_⟩
        have a := hlt (Pst.is_e hi)
        have b := h1.at_
        have c := h2.1.at_
        show p.at_ < (RR n (.parse .sum) d r.2.step).2.at_
        omega
      · split
        · rename_i hi
          have h1 := keeps_step hr.1.good (Pst.is_lt hi) (Pst.is_e hi)
          have h2 := keeps_take h1.good bNot
          have h3 := keeps_must h2.good bNull
          refine ⟨hr.1.trans (h1.trans (h2.trans h3.1)), fun _ => ?_⟩
          have a := hlt (Pst.is_e hi)
          have b := h1.at_
          have c := h2.at_
          have e := h3.1.at_
          show p.at_ < ((r.2.step.take bNot).must bNull).at_
          omega
        · exact ⟨hr.1, hlt⟩
    exact ⟨key.1, fun _ _ => key.2⟩
  | n + 1, .parse .atom, d, p, h => by
    have key : Keeps p (RR (n + 1) (.parse .atom) d p).2 ∧ ((RR (n + 1) (.parse .atom) d p).2.e = 0 → p.at_ < (RR (n + 1) (.parse .atom) d p).2.at_) := by
      rw [RR]
      split
      · rename_i hk
        have hk' : p.tok.kind ≠ 0 := by rw [hk]; decide
        exact ⟨keeps_step h (Pst.tok_lt hk') (Pst.tok_e hk'), fun _ => Nat.lt_succ_self _⟩
      · split
        · rename_i hk
          have hk' : p.tok.kind ≠ 0 := by rw [hk]; decide
          exact ⟨keeps_step h (Pst.tok_lt hk') (Pst.tok_e hk'), fun _ => Nat.lt_succ_self _⟩
        · split
          · rename_i hi
            exact ⟨keeps_step h (Pst.is_lt hi) (Pst.is_e hi), fun _ => Nat.lt_succ_self _⟩
          · split
            · rename_i hs
              split
              · exact ⟨(keeps_fail h 4 (by decide)).1, fun hh => absurd hh (keeps_fail h 4 (by decide)).2⟩
              · have hk := keeps_step h (Pst.is_lt hs) (Pst.is_e hs)
                have hr := RR_keeps n (.parse .or) (d + 1) p.step hk.good
                have hm := keeps_must hr.1.good bClose
                refine ⟨hk.trans (hr.1.trans hm.1), fun _ => ?_⟩
                have a := hm.1.at_
                have b := hr.1.at_
                have c : p.step.at_ = p.at_ + 1 := rfl
                show p.at_ < ((RR n (.parse .or) (d + 1) p.step).2.must bClose).at_
                omega
            · exact keeps_col h
    exact ⟨key.1, fun _ _ => key.2⟩
  | n + 1, .parse .or, d, p, h => rchain_keeps (l := .or) (RR_keeps n _ d p h) (RR_keeps n _ d _ (RR_keeps n _ d p h).1.good).1
  | n + 1, .parse .and, d, p, h => rchain_keeps (l := .and) (RR_keeps n _ d p h) (RR_keeps n _ d _ (RR_keeps n _ d p h).1.good).1
  | n + 1, .parse .sum, d, p, h => rchain_keeps (l := .sum) (RR_keeps n _ d p h) (RR_keeps n _ d _ (RR_keeps n _ d p h).1.good).1
  | n + 1, .parse .prod, d, p, h => rchain_keeps (l := .prod) (RR_keeps n _ d p h) (RR_keeps n _ d _ (RR_keeps n _ d p h).1.good).1

end Go.Par
