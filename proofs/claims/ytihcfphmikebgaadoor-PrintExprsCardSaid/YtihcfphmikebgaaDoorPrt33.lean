import Derived.Test.YtihcfphmikebgaaDoorPrt32
namespace Go.Par
open Go Go.Am Go.Proofs Go.RowKit
set_option linter.unusedVariables false
set_option linter.unusedSimpArgs false

/-! Every printed expression is parsed again: all levels -/
theorem is_name (s w : ByteArray) : (nameT s).is w = false := rfl
theorem lv_col (a b : ByteArray) : levelM (exCol a b).op = 7 := rfl
theorem lv_val (v : Val) : levelM (exVal v).op = 7 := rfl
theorem open_not (w : ByteArray) (h : bOpen ≠ w) : openT.is w = false := by simp [Tk.is, h]
theorem pt_head {x : Ex} {t : List Tk} {d : Nat} (h : Pt x t d) : t ≠ [] ∧ (4 ≤ levelM x.op → ∀ k r, t = k :: r → k.is bNot = false) := by
  have par : ∀ {x : Ex} {t : List Tk} {lvl : Int} (s : List Tk), 5 ≤ lvl → (t ≠ [] ∧ (4 ≤ levelM x.op → ∀ k r, t = k :: r → k.is bNot = false)) → ∀ k r, parT lvl x t ++ s = k :: r → k.is bNot = false := fun {x t lvl} s hl ih k r e => by
    by_cases hx : levelM x.op < lvl
    · rw [head_open hx] at e
      simp only [cap, List.cons.injEq] at e
      rw [← e.1]; rfl
    · rw [par_not hx] at e
      cases t with
      | nil => exact absurd rfl ih.1
      | cons a t =>
        simp only [cap, List.cons.injEq] at e
        rw [← e.1]
        exact ih.2 (by omega) a t rfl
  induction h with
  | col0 h => exact ⟨by simp, fun _ k r e => by cases e; rfl⟩
  | col ht h => exact ⟨by simp, fun _ k r e => by cases e; rfl⟩
  | int h0 h1 => exact ⟨by simp, fun _ k r e => by cases e; rfl⟩
  | txt h => exact ⟨by simp, fun _ k r e => by cases e; rfl⟩
  | null => exact ⟨by simp, fun _ k r e => by cases e; rfl⟩
  | not h ih => exact ⟨by simp, fun h4 => absurd h4 (by show ¬ (4 : Int) ≤ levelM 12; decide)⟩
  | isn h ih => exact ⟨by simp, fun _ => par _ (by decide) ih⟩
  | nnl h ih => exact ⟨by simp, fun _ => par _ (by decide) ih⟩
  | @bin op x y t u d c h1 h2 hx hy ihx ihy =>
    refine ⟨by simp, fun h4 => par _ ?_ ihx⟩
    have h4' : 4 ≤ levelM op := h4
    unfold levelM at h4'
    unfold asksM
    split at h4' <;> omega
theorem tok_kind {p : Pst} {k : Tk} {r : List Tk} (he : p.e = 0) (h : toks p = k :: r) : p.tok.kind = k.kd ∧ p.tok.text = k.tx ∧ p.tok.num = k.nm := by
  have := tok_cons he h
  rw [← this]; exact ⟨rfl, rfl, rfl⟩
/-- One deeper, and one token on. -/
theorem down_take {p : Pst} {k : Tk} {r : List Tk} {w : ByteArray} (he : p.e = 0) (h : toks p = k :: r) (hw : k.is w = true) (hd : p.deep + 1 ≤ 50) : p.down.take w = { p with deep := p.deep + 1, at_ := p.at_ + 1 } ∧ toks { p with deep := p.deep + 1, at_ := p.at_ + 1 } = r := by
  have e1 : p.down = { p with deep := p.deep + 1 } := by
    unfold Pst.down
    simp only
    rw [if_neg (by omega)]
  have e2 : toks { p with deep := p.deep + 1 } = k :: r := h
  have e3 : ({ p with deep := p.deep + 1 } : Pst).is w = true := by rw [is_cons (p := { p with deep := p.deep + 1 }) he e2, hw]
  refine ⟨by rw [e1, Pst.take, if_pos e3]; rfl, toks_cons e2⟩
theorem must_cons {p : Pst} {k : Tk} {r : List Tk} {w : ByteArray} (he : p.e = 0) (h : toks p = k :: r) (hw : k.is w = true) : p.must w = p.step := by
  unfold Pst.must
  rw [if_pos (by rw [is_cons he h, hw])]
theorem close_stp (rest : List Tk) : stp .or (closeT :: rest) := fun k r e w hw => by
  cases e
  have : ∀ w ∈ cont .or, closeT.is w = false := by decide
  exact this w hw
theorem up_paren {x : Ex} {t : List Tk} {d : Nat} (h : UP x t d .or) (h1 : 1 ≤ levelM x.op) (h7 : levelM x.op < 7) : UP x t d .atom := fun n p rest he ht hs hd hn => by
  obtain ⟨k, rfl⟩ : ∃ k, n = k + 1 := ⟨n - 1, by simp [Lv.rank] at hn; omega⟩
  have e0 : parT (lvN .atom) x t = openT :: (t ++ [closeT]) := head_open (by simpa [lvN] using h7)
  have e1 : parT (lvN .or) x t = t := par_not (by simp [lvN]; omega)
  have e2 : parD (lvN .or) x d = d := if_neg (by simp [lvN]; omega)
  have e3 : parD (lvN .atom) x d = d + 1 := if_pos (by simpa [lvN] using h7)
  rw [e0] at ht ⊢
  rw [e3] at hd
  simp only [cap, List.append_assoc, List.singleton_append] at ht
  obtain ⟨k1, k2, k3⟩ := tok_kind he ht
  obtain ⟨q1, q2⟩ := down_take (w := bOpen) he ht rfl (by omega)
  generalize hq : ({ p with deep := p.deep + 1, at_ := p.at_ + 1 } : Pst) = q at q1 q2
  have hqe : q.e = 0 := by rw [← hq]; exact he
  have hmz : mz p = mz q + 20 := by rw [mz_of he, mz_of hqe, ht, q2]; simp; omega
  have r1 := h k q (closeT :: rest) hqe (by rw [e1]; exact q2) (close_stp rest) (by rw [e2, ← hq]; show p.deep + 1 + d ≤ 50; omega) (by simp only [Lv.rank] at hn ⊢; omega)
  rw [e1] at r1
  have r2 : toks (q.adv t.length) = closeT :: rest := toks_app q2
  rw [R, if_neg (by rw [k1]; decide), if_neg (by rw [k1]; decide), if_neg (by rw [is_cons he ht]; decide), if_pos (by rw [is_cons he ht]; decide), q1, r1]
  simp only
  rw [must_cons (p := q.adv t.length) hqe r2 rfl]
  simp only [Prod.mk.injEq, true_and]
  rw [← hq]
  simp [Pst.up, Pst.step, Pst.adv]
  omega
abbrev G (x : Ex) (t : List Tk) (d : Nat) : Prop := (∀ l, UP x t d l) ∧ ∀ l, chn l = true → VP x t d l
theorem par_iff {a b : Int} {x : Ex} {t : List Tk} (h : levelM x.op < a ↔ levelM x.op < b) : parT a x t = parT b x t := by
  by_cases hc : levelM x.op < a
  · rw [parT, parT, if_pos hc, if_pos (h.1 hc)]
  · rw [parT, parT, if_neg hc, if_neg (fun e => hc (h.2 e))]
theorem parD_iff {a b : Int} {x : Ex} {d : Nat} (h : levelM x.op < a ↔ levelM x.op < b) : parD a x d = parD b x d := by
  by_cases hc : levelM x.op < a
  · rw [parD, parD, if_pos hc, if_pos (h.1 hc)]
  · rw [parD, parD, if_neg hc, if_neg (fun e => hc (h.2 e))]
theorem lift {x : Ex} {t : List Tk} {d : Nat} (hp : Pt x t d) (l : Lv) (hl : l ≠ .atom) (hne : levelM x.op ≠ lvN l) (h : UP x t d (nxt l)) : UP x t d l ∧ (chn l = true → VP x t d l) := by
  have hi : levelM x.op < lvN l ↔ levelM x.op < lvN (nxt l) := by
    cases l <;> simp only [lvN, nxt] at hne ⊢ <;> first | exact absurd rfl hl | omega
  have e1 : parT (lvN l) x t = parT (lvN (nxt l)) x t := par_iff hi
  have e2 : parD (lvN l) x d = parD (lvN (nxt l)) x d := parD_iff hi
  have viaC : chn l = true → nxt l = l.sub → UP x t d l ∧ (chn l = true → VP x t d l) := fun hc hs => by
    have hv := lift_chain hc (by rw [← hs]; exact h) (by rw [← hs]; exact e1) (by rw [← hs]; exact e2)
    exact ⟨vp_up hc hv, fun _ => hv⟩
  cases l with
  | or => exact viaC rfl rfl
  | and => exact viaC rfl rfl
  | sum => exact viaC rfl rfl
  | prod => exact viaC rfl rfl
  | atom => exact absurd rfl hl
  | test => exact ⟨lift_test h e1 e2, fun hc => by cases hc⟩
  | not =>
    have hh := pt_head hp
    refine ⟨lift_not h e1 e2 (fun k r e => ?_) ?_, fun hc => by cases hc⟩
    · by_cases hc : levelM x.op < 3
      · rw [head_open hc] at e
        rw [← (List.cons.inj e).1]; rfl
      · rw [par_not hc] at e
        simp only [lvN] at hne
        exact hh.2 (by omega) k r e
    · by_cases hc : levelM x.op < 3
      · rw [head_open hc]; simp
      · rw [par_not hc]; exact hh.1
theorem assemble {x : Ex} {t : List Tk} {d : Nat} (hp : Pt x t d) (L : Lv) (hL : levelM x.op = lvN L) (hU : UP x t d L) (hV : chn L = true → VP x t d L) : G x t d := by
  have lf : ∀ l, l ≠ .atom → l ≠ L → UP x t d (nxt l) → UP x t d l ∧ (chn l = true → VP x t d l) := fun l h1 h2 h => lift hp l h1 (by rw [hL]; intro e; apply h2; cases l <;> cases L <;> first | rfl | (simp [lvN] at e)) h
  have pa : lvN L < 7 → UP x t d .or → UP x t d .atom := fun h hu => up_paren hu (by rw [hL]; cases L <;> simp [lvN]) (by rw [hL]; exact h)
  have fin : UP x t d .or ∧ (chn .or = true → VP x t d .or) → UP x t d .and ∧ (chn .and = true → VP x t d .and) → UP x t d .not → UP x t d .test → UP x t d .sum ∧ (chn .sum = true → VP x t d .sum) → UP x t d .prod ∧ (chn .prod = true → VP x t d .prod) → UP x t d .atom → G x t d :=
    fun a b c e f g h => ⟨fun l => by cases l <;> first | exact a.1 | exact b.1 | exact c | exact e | exact f.1 | exact g.1 | exact h, fun l hl => by cases l <;> first | exact a.2 hl | exact b.2 hl | exact f.2 hl | exact g.2 hl | cases hl⟩
  cases L with
  | atom =>
    have p1 := lf .prod (by simp) (by simp) hU
    have p2 := lf .sum (by simp) (by simp) p1.1
    have p3 := lf .test (by simp) (by simp) p2.1
    have p4 := lf .not (by simp) (by simp) p3.1
    have p5 := lf .and (by simp) (by simp) p4.1
    have p6 := lf .or (by simp) (by simp) p5.1
    exact fin p6 p5 p4.1 p3.1 p2 p1 hU
  | prod =>
    have p2 := lf .sum (by simp) (by simp) hU
    have p3 := lf .test (by simp) (by simp) p2.1
    have p4 := lf .not (by simp) (by simp) p3.1
    have p5 := lf .and (by simp) (by simp) p4.1
    have p6 := lf .or (by simp) (by simp) p5.1
    exact fin p6 p5 p4.1 p3.1 p2 ⟨hU, hV⟩ (pa (by decide) p6.1)
  | sum =>
    have p3 := lf .test (by simp) (by simp) hU
    have p4 := lf .not (by simp) (by simp) p3.1
    have p5 := lf .and (by simp) (by simp) p4.1
    have p6 := lf .or (by simp) (by simp) p5.1
    have p0 := pa (by decide) p6.1
    exact fin p6 p5 p4.1 p3.1 ⟨hU, hV⟩ (lf .prod (by simp) (by simp) p0) p0
  | test =>
    have p4 := lf .not (by simp) (by simp) hU
    have p5 := lf .and (by simp) (by simp) p4.1
    have p6 := lf .or (by simp) (by simp) p5.1
    have p0 := pa (by decide) p6.1
    have p1 := lf .prod (by simp) (by simp) p0
    exact fin p6 p5 p4.1 hU (lf .sum (by simp) (by simp) p1.1) p1 p0
  | not =>
    have p5 := lf .and (by simp) (by simp) hU
    have p6 := lf .or (by simp) (by simp) p5.1
    have p0 := pa (by decide) p6.1
    have p1 := lf .prod (by simp) (by simp) p0
    have p2 := lf .sum (by simp) (by simp) p1.1
    exact fin p6 p5 hU (lf .test (by simp) (by simp) p2.1).1 p2 p1 p0
  | and =>
    have p6 := lf .or (by simp) (by simp) hU
    have p0 := pa (by decide) p6.1
    have p1 := lf .prod (by simp) (by simp) p0
    have p2 := lf .sum (by simp) (by simp) p1.1
    have p3 := lf .test (by simp) (by simp) p2.1
    exact fin p6 ⟨hU, hV⟩ (lf .not (by simp) (by simp) p3.1).1 p3.1 p2 p1 p0
  | or =>
    have p0 := pa (by decide) hU
    have p1 := lf .prod (by simp) (by simp) p0
    have p2 := lf .sum (by simp) (by simp) p1.1
    have p3 := lf .test (by simp) (by simp) p2.1
    have p4 := lf .not (by simp) (by simp) p3.1
    have p5 := lf .and (by simp) (by simp) p4.1
    exact fin ⟨hU, hV⟩ p5 p4.1 p3.1 p2 p1 p0

end Go.Par
