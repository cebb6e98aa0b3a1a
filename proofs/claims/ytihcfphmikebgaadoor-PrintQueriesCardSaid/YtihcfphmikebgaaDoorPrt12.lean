import Derived.Test.YtihcfphmikebgaaDoorPrt11
namespace Go.Par
open Go Go.Am Go.Proofs Go.RowKit
set_option linter.unusedVariables false
set_option linter.unusedSimpArgs false

inductive Lv where
  | or | and | not | test | sum | prod | atom
inductive Job where
  | parse (l : Lv)
  | loop (l : Lv) (e : Ex)
def Lv.sub : Lv → Lv
  | .or => .and
  | .and => .not
  | .sum => .prod
  | .prod => .atom
  | l => l
def Lv.signs : Lv → List ByteArray
  | .or => [⟨#[111, 114]⟩]
  | .and => [⟨#[97, 110, 100]⟩]
  | .sum => [⟨#[43]⟩, ⟨#[45]⟩]
  | .prod => [⟨#[42]⟩]
  | _ => []
def cmps : List ByteArray := [⟨#[61]⟩, ⟨#[60, 62]⟩, ⟨#[60]⟩, ⟨#[60, 61]⟩, ⟨#[62]⟩, ⟨#[62, 61]⟩]
abbrev bNot : ByteArray := ⟨#[110, 111, 116]⟩
abbrev bIs : ByteArray := ⟨#[105, 115]⟩
abbrev bNull : ByteArray := ⟨#[110, 117, 108, 108]⟩
abbrev bOpen : ByteArray := ⟨#[40]⟩
abbrev bClose : ByteArray := ⟨#[41]⟩
/-- What the program's parser computes, fuel being enough; whatever it computes behind an error, too. -/
def R : Nat → Job → Pst → Ex × Pst
  | 0, _, p => (exCol bs0 bs0, p.fail 1)
  | n + 1, .loop l e, p => match (if p.e = 0 then l.signs.find? p.is else none) with
    | none => (e, p)
    | some s => R n (.loop l (exOf (opOf s) [e, (R n (.parse l.sub) p.step).1])) (R n (.parse l.sub) p.step).2
  | n + 1, .parse .not, p => if p.is bNot then (exOf 12 [(R n (.parse .not) (p.down.take bNot)).1], (R n (.parse .not) (p.down.take bNot)).2.up) else R n (.parse .test) p
  | n + 1, .parse .test, p => match cmps.find? (R n (.parse .sum) p).2.is with
    | some s => (exOf (opOf s) [(R n (.parse .sum) p).1, (R n (.parse .sum) (R n (.parse .sum) p).2.step).1], (R n (.parse .sum) (R n (.parse .sum) p).2.step).2)
    | none => if (R n (.parse .sum) p).2.is bIs then (exOf (if (R n (.parse .sum) p).2.step.is bNot then 14 else 13) [(R n (.parse .sum) p).1], ((R n (.parse .sum) p).2.step.take bNot).must bNull) else R n (.parse .sum) p
  | n + 1, .parse .atom, p => if p.tok.kind = 3 then (exVal ⟨1, p.tok.num, bs0⟩, p.step) else if p.tok.kind = 4 then (exVal ⟨2, 0, p.tok.text⟩, p.step) else if p.is bNull then (exVal Val.null, p.step)
    else if p.is bOpen then ((R n (.parse .or) (p.down.take bOpen)).1, ((R n (.parse .or) (p.down.take bOpen)).2.must bClose).up) else p.col
  | n + 1, .parse l, p => R n (.loop l (R n (.parse l.sub) p).1) (R n (.parse l.sub) p).2
structure Good (p : Pst) : Prop where
  ok : p.Ok
  dp : p.e = 0 → p.deep ≤ 50
structure Keeps (p q : Pst) : Prop where
  l : q.l = p.l
  deep : q.deep = p.deep
  at_ : p.at_ ≤ q.at_
  good : Good q
  err : p.e ≠ 0 → q = p
theorem Keeps.refl {p : Pst} (h : Good p) : Keeps p p := ⟨rfl, rfl, Nat.le_refl _, h, fun _ => rfl⟩
theorem Keeps.trans {p q r : Pst} (h : Keeps p q) (k : Keeps q r) : Keeps p r :=
  ⟨k.l.trans h.l, k.deep.trans h.deep, Nat.le_trans h.at_ k.at_, k.good, fun he => by
    have e1 := h.err he
    have e2 := k.err (by rw [e1]; exact he)
    rw [e2, e1]⟩
theorem Pst.is_e {p : Pst} {s : ByteArray} (h : p.is s = true) : p.e = 0 := by
  simp only [Pst.is, Bool.and_eq_true, bqi] at h
  exact h.1.1
theorem Pst.tok_e {p : Pst} (h : p.tok.kind ≠ 0) : p.e = 0 := by
  unfold Pst.tok at h
  split at h
  · rename_i h'; exact h'.1
  · simp [Tok.zero] at h
theorem keeps_step {p : Pst} (h : Good p) (hlt : p.at_ < p.l.length) (he : p.e = 0) : Keeps p p.step :=
  ⟨rfl, rfl, Nat.le_succ _, ⟨h.ok.step hlt, h.dp⟩, fun hh => absurd he hh⟩
theorem keeps_fail {p : Pst} (h : Good p) (e : Int) (h0 : e ≠ 0) : Keeps p (p.fail e) ∧ (p.fail e).e ≠ 0 := by
  unfold Pst.fail
  by_cases he : p.e = 0
  · rw [if_pos he]
    exact ⟨⟨rfl, rfl, ler _, ⟨⟨h.ok.at_, h.ok.len, h.ok.deep, h.ok.text⟩, fun hh => absurd hh h0⟩, fun hh => absurd he hh⟩, h0⟩
  · rw [if_neg he]
    exact ⟨Keeps.refl h, he⟩
theorem keeps_take {p : Pst} (h : Good p) (s : ByteArray) : Keeps p (p.take s) := by
  unfold Pst.take
  split
  · rename_i hs; exact keeps_step h (Pst.is_lt hs) (Pst.is_e hs)
  · exact Keeps.refl h
theorem keeps_must {p : Pst} (h : Good p) (s : ByteArray) : Keeps p (p.must s) ∧ ((p.must s).e = 0 → p.at_ < (p.must s).at_) := by
  unfold Pst.must
  split
  · rename_i hs; exact ⟨keeps_step h (Pst.is_lt hs) (Pst.is_e hs), fun _ => Nat.lt_succ_self _⟩
  · exact ⟨(keeps_fail h 1 (by decide)).1, fun hh => absurd hh (keeps_fail h 1 (by decide)).2⟩
theorem keeps_name {p : Pst} (h : Good p) : Keeps p p.name.2 ∧ (p.name.2.e = 0 → p.at_ < p.name.2.at_) := by
  unfold Pst.name
  split
  · rename_i hs
    have hk : p.tok.kind ≠ 0 := by rw [hs]; decide
    exact ⟨keeps_step h (Pst.tok_lt hk) (Pst.tok_e hk), fun _ => Nat.lt_succ_self _⟩
  · exact ⟨(keeps_fail h 1 (by decide)).1, fun hh => absurd hh (keeps_fail h 1 (by decide)).2⟩
theorem keeps_col {p : Pst} (h : Good p) : Keeps p p.col.2 ∧ (p.col.2.e = 0 → p.at_ < p.col.2.at_) := by
  have h1 := keeps_name h
  unfold Pst.col
  split
  · rename_i hs
    have h2 := keeps_step h1.1.good (Pst.is_lt hs) (Pst.is_e hs)
    have h3 := keeps_name h2.good
    refine ⟨h1.1.trans (h2.trans h3.1), fun he => ?_⟩
    have a := h1.1.at_
    have b := h2.at_
    have c := h3.2 he
    have d : p.name.2.step.at_ = p.name.2.at_ + 1 := rfl
    show p.at_ < p.name.2.step.name.2.at_
    omega
  · exact h1
theorem down_good {p : Pst} (h : Good p) (he : p.e = 0) : Good p.down ∧ p.down.l = p.l ∧ p.down.at_ = p.at_ ∧ p.down.deep = p.deep + 1 := by
  have hd := h.dp he
  unfold Pst.down
  by_cases hc : p.deep + 1 > 50
  · simp only [if_pos hc]
    have hf : (({ p with deep := p.deep + 1 } : Pst).fail 4) = { p with deep := p.deep + 1, e := 4 } := by
      unfold Pst.fail; rw [if_pos he]
    rw [hf]
    exact ⟨⟨⟨h.ok.at_, h.ok.len, by show p.deep + 1 ≤ 1000; omega, h.ok.text⟩, fun hh => by simp at hh⟩, rfl, rfl, rfl⟩
  · simp only [if_neg hc]
    exact ⟨⟨⟨h.ok.at_, h.ok.len, by show p.deep + 1 ≤ 1000; omega, h.ok.text⟩, fun _ => by show p.deep + 1 ≤ 50; omega⟩, by first | trivial | rfl, by first | trivial | rfl, by first | trivial | rfl⟩
/-- In brackets: what is told of the inner end holds behind 'up'. -/
theorem keeps_nest {p r : Pst} {s : ByteArray} (h : Good p) (hs : p.is s = true) (hr : Keeps (p.down.take s) r) : Keeps p r.up := by
  have he := Pst.is_e hs
  obtain ⟨hg, hl, ha, hd⟩ := down_good h he
  have hk := (keeps_take hg s).trans hr
  have e1 := hk.deep
  have e2 := hk.l
  have e3 := hk.at_
  have hp := h.dp he
  have eu : r.up.deep = r.deep - 1 := rfl
  refine ⟨e2.trans hl, by rw [eu, e1, hd]; omega, by rw [← ha]; exact e3, ⟨⟨hk.good.ok.at_, hk.good.ok.len, by rw [eu]; have := hk.good.ok.deep; omega, hk.good.ok.text⟩, fun hh => by rw [eu, e1, hd]; omega⟩, fun hh => absurd he hh⟩
theorem chain_keeps {n : Nat} {l : Lv} {p : Pst} (hr : Keeps p (R n (.parse l.sub) p).2 ∧ (∀ lv, Job.parse l.sub = .parse lv → (R n (.parse l.sub) p).2.e = 0 → p.at_ < (R n (.parse l.sub) p).2.at_))
    (hl : Keeps (R n (.parse l.sub) p).2 (R n (.loop l (R n (.parse l.sub) p).1) (R n (.parse l.sub) p).2).2) :
    Keeps p (R n (.loop l (R n (.parse l.sub) p).1) (R n (.parse l.sub) p).2).2 ∧ (∀ lv : Lv, Job.parse l = .parse lv → (R n (.loop l (R n (.parse l.sub) p).1) (R n (.parse l.sub) p).2).2.e = 0 → p.at_ < (R n (.loop l (R n (.parse l.sub) p).1) (R n (.parse l.sub) p).2).2.at_) := by
  refine ⟨hr.1.trans hl, fun _ _ he => ?_⟩
  have h0 : (R n (.parse l.sub) p).2.e = 0 := by
    by_cases hc : (R n (.parse l.sub) p).2.e = 0
    · exact hc
    · rw [hl.err hc] at he; exact he
  have a := hr.2 _ rfl h0
  have b := hl.at_
  omega
theorem R_keeps : ∀ (n : Nat) (job : Job) (p : Pst), Good p → Keeps p (R n job p).2 ∧ (∀ lv, job = .parse lv → (R n job p).2.e = 0 → p.at_ < (R n job p).2.at_)
  | 0, job, p, h => by
    have := keeps_fail h 1 (by decide)
    exact ⟨this.1, fun _ _ hh => absurd hh this.2⟩
  | n + 1, .loop l e, p, h => by
    refine ⟨?_, fun lv hj => by cases hj⟩
    rw [R]
    split
    · exact Keeps.refl h
    · rename_i s hs
      split at hs
      · rename_i he
        have hi := List.find?_some hs
        have h1 := keeps_step h (Pst.is_lt hi) he
        have h2 := (R_keeps n (.parse l.sub) p.step h1.good).1
        exact h1.trans (h2.trans (R_keeps n _ _ h2.good).1)
      · cases hs
  | n + 1, .parse .not, p, h => by
    have key : Keeps p (R (n + 1) (.parse .not) p).2 ∧ ((R (n + 1) (.parse .not) p).2.e = 0 → p.at_ < (R (n + 1) (.parse .not) p).2.at_) := by
      rw [R]
      split
      · rename_i hs
        have hg := down_good h (Pst.is_e hs)
        have hk := keeps_take hg.1 bNot
        have hr := R_keeps n (.parse .not) (p.down.take bNot) hk.good
        refine ⟨keeps_nest h hs hr.1, fun he => ?_⟩
        have := hr.2 .not rfl he
        have a := hk.at_
        show p.at_ < (R n (.parse .not) (p.down.take bNot)).2.at_
        rw [hg.2.2.1] at a
        omega
      · have hr := R_keeps n (.parse .test) p h
        exact ⟨hr.1, hr.2 .test rfl⟩
    exact ⟨key.1, fun _ _ => key.2⟩
  | n + 1, .parse .test, p, h => by
    have key : Keeps p (R (n + 1) (.parse .test) p).2 ∧ ((R (n + 1) (.parse .test) p).2.e = 0 → p.at_ < (R (n + 1) (.parse .test) p).2.at_) := by
      have hr := R_keeps n (.parse .sum) p h
      have hr2 := hr.2 .sum rfl
      rw [R]
      generalize R n (.parse .sum) p = r at hr hr2 ⊢
      have hlt : r.2.e = 0 → p.at_ < r.2.at_ := hr2
      split
      · rename_i s hs
        have hi := List.find?_some hs
        have h1 := keeps_step hr.1.good (Pst.is_lt hi) (Pst.is_e hi)
        have h2 := R_keeps n (.parse .sum) r.2.step h1.good
        refine ⟨hr.1.trans (h1.trans h2.1), fun _ => ?_⟩
        have a := hlt (Pst.is_e hi)
        have b := h1.at_
        have c := h2.1.at_
        show p.at_ < (R n (.parse .sum) r.2.step).2.at_
        omega
      · split
        · rename_i hi
          have h1 := keeps_step hr.1.good (Pst.is_lt hi) (Pst.is_e hi)
          have h2 := keeps_take h1.good bNot
          have h3 := keeps_must h2.good bNull
          refine ⟨hr.1.trans (h1.trans (h2.trans h3.1)), fun _ => ?_⟩
          have a := hlt (Pst.is_e hi)
          have b := h1.at_
          have c := h2.at_
          have d := h3.1.at_
          show p.at_ < ((r.2.step.take bNot).must bNull).at_
          omega
        · exact ⟨hr.1, hlt⟩
    exact ⟨key.1, fun _ _ => key.2⟩
  | n + 1, .parse .atom, p, h => by
    have key : Keeps p (R (n + 1) (.parse .atom) p).2 ∧ ((R (n + 1) (.parse .atom) p).2.e = 0 → p.at_ < (R (n + 1) (.parse .atom) p).2.at_) := by
      rw [R]
      split
      · rename_i hk
        have hk' : p.tok.kind ≠ 0 := by rw [hk]; decide
        exact ⟨keeps_step h (Pst.tok_lt hk') (Pst.tok_e hk'), fun _ => Nat.lt_succ_self _⟩
      · split
        · rename_i hk
          have hk' : p.tok.kind ≠ 0 := by rw [hk]; decide
          exact ⟨keeps_step h (Pst.tok_lt hk') (Pst.tok_e hk'), fun _ => Nat.lt_succ_self _⟩
        · split
          · rename_i hi
            exact ⟨keeps_step h (Pst.is_lt hi) (Pst.is_e hi), fun _ => Nat.lt_succ_self _⟩
          · split
            · rename_i hs
              have hg := down_good h (Pst.is_e hs)
              have hk := keeps_take hg.1 bOpen
              have hr := R_keeps n (.parse .or) (p.down.take bOpen) hk.good
              have hm := keeps_must hr.1.good bClose
              refine ⟨keeps_nest h hs (hr.1.trans hm.1), fun he => ?_⟩
              have a := hm.2 he
              have b := hr.1.at_
              have c := hk.at_
              rw [hg.2.2.1] at c
              show p.at_ < ((R n (.parse .or) (p.down.take bOpen)).2.must bClose).at_
              omega
            · exact keeps_col h
    exact ⟨key.1, fun _ _ => key.2⟩
  | n + 1, .parse .or, p, h => chain_keeps (l := .or) (R_keeps n _ p h) (R_keeps n _ _ (R_keeps n _ p h).1.good).1
  | n + 1, .parse .and, p, h => chain_keeps (l := .and) (R_keeps n _ p h) (R_keeps n _ _ (R_keeps n _ p h).1.good).1
  | n + 1, .parse .sum, p, h => chain_keeps (l := .sum) (R_keeps n _ p h) (R_keeps n _ _ (R_keeps n _ p h).1.good).1
  | n + 1, .parse .prod, p, h => chain_keeps (l := .prod) (R_keeps n _ p h) (R_keeps n _ _ (R_keeps n _ p h).1.good).1

end Go.Par
