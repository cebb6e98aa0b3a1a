import Derived.Test.YtihcfphmikebgaaPar19
namespace Go.Par
open Go Go.Am Go.Proofs Go.RowKit
set_option linter.unusedVariables false
set_option linter.unusedSimpArgs false

/-- All but the depth is the same. -/
structure Sm (p q : Pst) : Prop where
  l : p.l = q.l
  at_ : p.at_ = q.at_
  e : p.e = q.e
theorem Sm.tok {p q : Pst} (h : Sm p q) : p.tok = q.tok := by unfold Pst.tok; rw [h.l, h.at_, h.e]
theorem Sm.is {p q : Pst} (h : Sm p q) : p.is = q.is := by funext s; unfold Pst.is; rw [h.tok, h.e]
theorem Sm.step {p q : Pst} (h : Sm p q) : Sm p.step q.step := ⟨h.l, congrArg (· + 1) h.at_, h.e⟩
theorem Sm.fail {p q : Pst} (h : Sm p q) (e : Int) : Sm (p.fail e) (q.fail e) := by
  unfold Pst.fail
  rw [h.e]
  split
  · exact ⟨h.l, h.at_, rfl⟩
  · exact h
theorem Sm.take {p q : Pst} (h : Sm p q) (s : ByteArray) : Sm (p.take s) (q.take s) := by
  unfold Pst.take
  rw [h.is]
  split
  · exact h.step
  · exact h
theorem Sm.must {p q : Pst} (h : Sm p q) (s : ByteArray) : Sm (p.must s) (q.must s) := by
  unfold Pst.must
  rw [h.is]
  split
  · exact h.step
  · exact h.fail 1
theorem Sm.name {p q : Pst} (h : Sm p q) : p.name.1 = q.name.1 ∧ Sm p.name.2 q.name.2 := by
  unfold Pst.name
  rw [h.tok]
  split
  · exact ⟨rfl, h.step⟩
  · exact ⟨rfl, h.fail 1⟩
theorem Sm.col {p q : Pst} (h : Sm p q) : p.col.1 = q.col.1 ∧ Sm p.col.2 q.col.2 := by
  have h1 := h.name
  have h2 := h1.2.step.name
  unfold Pst.col
  rw [h1.2.is, h1.1]
  split
  · exact ⟨by rw [h2.1], h2.2⟩
  · exact ⟨rfl, h1.2⟩
/-- The same is told: the same error, or none and the same expression and place. -/
structure Ag (a b : Ex × Pst) : Prop where
  e : a.2.e = b.2.e
  ok : a.2.e = 0 → a.1 = b.1 ∧ Sm a.2 b.2
theorem Ag.of {a b : Ex × Pst} (h1 : a.1 = b.1) (h2 : Sm a.2 b.2) : Ag a b := ⟨h2.e, fun _ => ⟨h1, h2⟩⟩
theorem down_ok {p : Pst} (h : ¬ p.deep + 1 > 50) : p.down = { p with deep := p.deep + 1 } := by
  unfold Pst.down; simp only [if_neg h]
theorem down_no {p : Pst} (h : p.deep + 1 > 50) (he : p.e = 0) : p.down = { p with deep := p.deep + 1, e := 4 } := by
  unfold Pst.down; simp only [if_pos h]; unfold Pst.fail; rw [if_pos he]
abbrev AgAt (n : Nat) : Prop := ∀ (job : Job) (p q : Pst), Good p → Good q → Sm p q → Ag (R n job p) (RR n job p.deep q)
theorem agree_bind {n : Nat} (ih : AgAt n) (f : Ex → Ex) (l : Lv) {p q : Pst} (hp : Good p) (hq : Good q) (h : Sm p q) :
    Ag (R n (.loop l (f (R n (.parse l.sub) p).1)) (R n (.parse l.sub) p).2) (RR n (.loop l (f (RR n (.parse l.sub) p.deep q).1)) p.deep (RR n (.parse l.sub) p.deep q).2) := by
  have a := ih (.parse l.sub) p q hp hq h
  have kp := (R_keeps n (.parse l.sub) p hp).1
  have kq := (RR_keeps n (.parse l.sub) p.deep q hq).1
  by_cases he : (R n (.parse l.sub) p).2.e = 0
  · obtain ⟨e1, s1⟩ := a.ok he
    have := ih (.loop l (f (R n (.parse l.sub) p).1)) _ _ kp.good kq.good s1
    rw [kp.deep] at this
    rw [← e1]; exact this
  · have he' : (RR n (.parse l.sub) p.deep q).2.e ≠ 0 := by rw [← a.e]; exact he
    have e1 := (R_keeps n (.loop l (f (R n (.parse l.sub) p).1)) _ kp.good).1.err he
    have e2 := (RR_keeps n (.loop l (f (RR n (.parse l.sub) p.deep q).1)) p.deep _ kq.good).1.err he'
    exact ⟨by rw [e1, e2]; exact a.e, fun hh => absurd (by rw [← e1]; exact hh) he⟩
theorem agree_not {n : Nat} (ih : AgAt n) {p q : Pst} (hp : Good p) (hq : Good q) (h : Sm p q) : Ag (R (n + 1) (.parse .not) p) (RR (n + 1) (.parse .not) p.deep q) := by
  rw [R, RR, ← h.is]
  by_cases hs : p.is bNot = true
  · rw [if_pos hs, if_pos hs]
    have he := Pst.is_e hs
    have hdp := hp.dp he
    have hD := down_good hp he
    have hT := keeps_take hD.1 bNot
    have hK := (R_keeps n (.parse .not) (p.down.take bNot) hT.good).1
    by_cases hc : p.deep + 1 > 50
    · have hd50 : p.deep = 50 := by omega
      rw [if_pos hd50]
      have hd := down_no hc he
      have e4 : p.down.e = 4 := by rw [hd]
      have e5 : (R n (.parse .not) (p.down.take bNot)).2.e = 4 := by
        have t1 := hT.err (by rw [e4]; decide)
        rw [hK.err (by rw [t1, e4]; decide), t1, e4]
      have e6 : (q.fail 4).e = 4 := by unfold Pst.fail; rw [if_pos (by rw [← h.e]; exact he)]
      exact ⟨e5.trans e6.symm, fun hh => absurd (e5.symm.trans hh) (by decide)⟩
    · have hd50 : ¬ p.deep = 50 := by omega
      rw [if_neg hd50]
      have hd := down_ok hc
      have hi : p.down.is bNot = true := by rw [hd]; exact hs
      rw [take_t hi] at hK ⊢
      have sm : Sm p.down.step q.step := by rw [hd]; exact ⟨h.l, congrArg (· + 1) h.at_, h.e⟩
      have k2 := keeps_step hq (Pst.is_lt (by rw [← h.is]; exact hs)) (by rw [← h.e]; exact he)
      have g1 : Good p.down.step := (keeps_step hD.1 (Pst.is_lt hi) (Pst.is_e hi)).good
      have a := ih (.parse .not) p.down.step q.step g1 k2.good sm
      have ed : p.down.step.deep = p.deep + 1 := by rw [hd]; rfl
      rw [ed] at a
      refine ⟨a.e, fun hh => ?_⟩
      obtain ⟨e1, s1⟩ := a.ok hh
      exact ⟨by simp only; rw [e1], ⟨s1.l, s1.at_, s1.e⟩⟩
  · rw [if_neg hs, if_neg hs]
    exact ih _ p q hp hq h
theorem agree_test {n : Nat} (ih : AgAt n) {p q : Pst} (hp : Good p) (hq : Good q) (h : Sm p q) : Ag (R (n + 1) (.parse .test) p) (RR (n + 1) (.parse .test) p.deep q) := by
  have a := ih (.parse .sum) p q hp hq h
  have kp := (R_keeps n (.parse .sum) p hp).1
  have kq := (RR_keeps n (.parse .sum) p.deep q hq).1
  rw [R, RR]
  have hdeep := kp.deep
  generalize R n (.parse .sum) p = r at a kp hdeep ⊢
  generalize RR n (.parse .sum) p.deep q = r' at a kq ⊢
  by_cases he : r.2.e = 0
  · obtain ⟨e1, s1⟩ := a.ok he
    rw [← s1.is]
    cases hs : cmps.find? r.2.is with
    | some s =>
      dsimp only
      have hi := List.find?_some hs
      have k1 := keeps_step kp.good (Pst.is_lt hi) he
      have k2 := keeps_step kq.good (Pst.is_lt (by rw [← s1.is]; exact hi)) (by rw [← s1.e]; exact he)
      have b := ih (.parse .sum) r.2.step r'.2.step k1.good k2.good s1.step
      have ed : r.2.step.deep = p.deep := hdeep
      rw [ed] at b
      refine ⟨b.e, fun hh => ?_⟩
      obtain ⟨e2, s2⟩ := b.ok hh
      exact ⟨by simp only; rw [e1, e2], s2⟩
    | none =>
      dsimp only
      split
      · refine .of ?_ ((s1.step.take bNot).must bNull)
        simp only
        rw [e1, s1.step.is]
      · exact a
  · have hn : cmps.find? r.2.is = none := by
      rw [List.find?_eq_none]
      intro s _ hs
      exact he (Pst.is_e hs)
    have he' : ¬ r'.2.e = 0 := by rw [← a.e]; exact he
    have hn' : cmps.find? r'.2.is = none := by
      rw [List.find?_eq_none]
      intro s _ hs
      exact he' (Pst.is_e hs)
    have hi : r.2.is bIs = false := by
      cases hh : r.2.is bIs with
      | false => rfl
      | true => exact absurd (Pst.is_e hh) he
    have hi' : r'.2.is bIs = false := by
      cases hh : r'.2.is bIs with
      | false => rfl
      | true => exact absurd (Pst.is_e hh) he'
    rw [hn, hn']
    simp only [hi, hi']
    exact a
theorem agree_atom {n : Nat} (ih : AgAt n) {p q : Pst} (hp : Good p) (hq : Good q) (h : Sm p q) : Ag (R (n + 1) (.parse .atom) p) (RR (n + 1) (.parse .atom) p.deep q) := by
  rw [R, RR, ← h.tok, ← h.is]
  split
  · exact .of rfl h.step
  · split
    · exact .of rfl h.step
    · split
      · exact .of rfl h.step
      · by_cases hs : p.is bOpen = true
        · rw [if_pos hs, if_pos hs]
          have he := Pst.is_e hs
          have hdp := hp.dp he
          have hD := down_good hp he
          have hT := keeps_take hD.1 bOpen
          have hK := (R_keeps n (.parse .or) (p.down.take bOpen) hT.good).1
          by_cases hc : p.deep + 1 > 50
          · have hd50 : p.deep = 50 := by omega
            rw [if_pos hd50]
            have hd := down_no hc he
            have e4 : p.down.e = 4 := by rw [hd]
            have t1 := hT.err (by rw [e4]; decide)
            have t2 := hK.err (by rw [t1, e4]; decide)
            have hM := (keeps_must hK.good bClose).1
            have e5 : ((R n (.parse .or) (p.down.take bOpen)).2.must bClose).e = 4 := by
              rw [hM.err (by rw [t2, t1, e4]; decide), t2, t1, e4]
            have e6 : (q.fail 4).e = 4 := by unfold Pst.fail; rw [if_pos (by rw [← h.e]; exact he)]
            exact ⟨e5.trans e6.symm, fun hh => absurd (e5.symm.trans hh) (by decide)⟩
          · have hd50 : ¬ p.deep = 50 := by omega
            rw [if_neg hd50]
            have hd := down_ok hc
            have hi : p.down.is bOpen = true := by rw [hd]; exact hs
            rw [take_t hi] at hK ⊢
            have sm : Sm p.down.step q.step := by rw [hd]; exact ⟨h.l, congrArg (· + 1) h.at_, h.e⟩
            have k2 := keeps_step hq (Pst.is_lt (by rw [← h.is]; exact hs)) (by rw [← h.e]; exact he)
            have g1 : Good p.down.step := (keeps_step hD.1 (Pst.is_lt hi) (Pst.is_e hi)).good
            have a := ih (.parse .or) p.down.step q.step g1 k2.good sm
            have kq := (RR_keeps n (.parse .or) (p.deep + 1) q.step k2.good).1
            have ed : p.down.step.deep = p.deep + 1 := by rw [hd]; rfl
            rw [ed] at a
            generalize R n (.parse .or) p.down.step = r at a hK ⊢
            generalize RR n (.parse .or) (p.deep + 1) q.step = r' at a kq ⊢
            by_cases h0 : r.2.e = 0
            · obtain ⟨e1, s1⟩ := a.ok h0
              have sm2 := s1.must bClose
              exact .of e1 ⟨sm2.l, sm2.at_, sm2.e⟩
            · have h0' : ¬ r'.2.e = 0 := by rw [← a.e]; exact h0
              have m1 := (keeps_must hK.good bClose).1.err h0
              have m2 := (keeps_must kq.good bClose).1.err h0'
              have e5 : (r.2.must bClose).e = r.2.e := by rw [m1]
              have e6 : (r'.2.must bClose).e = r'.2.e := by rw [m2]
              exact ⟨(e5.trans a.e).trans e6.symm, fun hh => absurd (e5.symm.trans hh) h0⟩
        · rw [if_neg hs, if_neg hs]
          exact .of h.col.1 h.col.2
theorem agree : ∀ n, AgAt n
  | 0, job, p, q, hp, hq, h => ⟨(h.fail 1).e, fun hh => absurd hh (keeps_fail hp 1 (by decide)).2⟩
  | n + 1, .loop l e, p, q, hp, hq, h => by
    rw [R, RR, ← h.is]
    by_cases he : p.e = 0
    · rw [if_pos he]
      cases hs : l.signs.find? p.is with
      | none => exact .of rfl h
      | some s =>
        dsimp only
        have hi := List.find?_some hs
        have k1 := keeps_step hp (Pst.is_lt hi) he
        have k2 := keeps_step hq (Pst.is_lt (by rw [← h.is]; exact hi)) (by rw [← h.e]; exact he)
        exact agree_bind (agree n) (fun x => exOf (opOf s) [e, x]) l k1.good k2.good h.step
    · rw [if_neg he]
      have hn : l.signs.find? p.is = none := by
        rw [List.find?_eq_none]
        intro s _ hs
        exact he (Pst.is_e hs)
      rw [hn]
      exact .of rfl h
  | n + 1, .parse .not, p, q, hp, hq, h => agree_not (agree n) hp hq h
  | n + 1, .parse .test, p, q, hp, hq, h => agree_test (agree n) hp hq h
  | n + 1, .parse .atom, p, q, hp, hq, h => agree_atom (agree n) hp hq h
  | n + 1, .parse .or, p, q, hp, hq, h => agree_bind (agree n) id .or hp hq h
  | n + 1, .parse .and, p, q, hp, hq, h => agree_bind (agree n) id .and hp hq h
  | n + 1, .parse .sum, p, q, hp, hq, h => agree_bind (agree n) id .sum hp hq h
  | n + 1, .parse .prod, p, q, hp, hq, h => agree_bind (agree n) id .prod hp hq h

end Go.Par
