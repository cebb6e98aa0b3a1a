import Derived.Test.YtihcfphmikebgaaDoorPrt34
namespace Go.Par
open Go Go.Am Go.Proofs Go.RowKit
set_option linter.unusedVariables false
set_option linter.unusedSimpArgs false

/-! What is parsed can be printed, in no more tokens and no more depth -/
structure VTok (t : Tok) : Prop where
  name : t.kind = 1 → nameOk t.text
  lo : t.kind = 3 → 0 ≤ t.num
  hi : t.kind = 3 → t.num ≤ 9223372036854775807
  txt : t.kind = 4 → t.text.size ≤ 65536
def VL (p : Pst) : Prop := ∀ t ∈ p.l, VTok t
theorem tok_vt {p : Pst} (h : VL p) : VTok p.tok := by
  unfold Pst.tok
  split
  · rename_i hh
    refine h _ ?_
    simp [List.getD_eq_getElem?_getD, hh.2]
  · exact ⟨fun e => by simp [Tok.zero] at e, fun e => by simp [Tok.zero] at e, fun e => by simp [Tok.zero] at e, fun e => by simp [Tok.zero] at e⟩
theorem parT_le {a b : Int} (h : a ≤ b) (x : Ex) (t : List Tk) : (parT a x t).length ≤ (parT b x t).length := by
  unfold parT
  split
  · rw [if_pos (by omega)]; exact ler _
  · split <;> simp; omega
theorem parT_up (b : Int) (x : Ex) (t : List Tk) : (parT b x t).length ≤ t.length + 2 := by
  unfold parT
  split <;> simp
theorem parD_le {a b : Int} (h : a ≤ b) (x : Ex) (d : Nat) : parD a x d ≤ parD b x d := by
  unfold parD
  split
  · rw [if_pos (by omega)]; exact ler _
  · split <;> omega
theorem parD_up (b : Int) (x : Ex) (d : Nat) : parD b x d ≤ d + 1 := by
  unfold parD
  split <;> omega
theorem parD_not {lvl : Int} {x : Ex} {d : Nat} (h : ¬ levelM x.op < lvl) : parD lvl x d = d := if_neg h
theorem keeps_e {p q : Pst} (h : Keeps p q) (hq : q.e = 0) : p.e = 0 := by
  by_cases he : p.e = 0
  · exact he
  · rw [h.err he] at hq; exact absurd hq he
theorem down_e {p : Pst} {w : ByteArray} (hi : p.is w = true) (h : (p.down.take w).e = 0) : p.deep + 1 ≤ 50 ∧ p.down.take w = { p with deep := p.deep + 1, at_ := p.at_ + 1 } := by
  by_cases hd : p.deep + 1 > 50
  · exfalso
    have e1 : p.down = ({ p with deep := p.deep + 1 } : Pst).fail 4 := by
      unfold Pst.down
      simp only
      rw [if_pos hd]
    have e2 : p.down.e ≠ 0 := by
      rw [e1]; unfold Pst.fail
      rw [if_pos (show ({ p with deep := p.deep + 1 } : Pst).e = 0 from Pst.is_e hi)]
      simp
    have e3 : p.down.is w = false := by
      unfold Pst.is
      simp [e2]
    rw [Pst.take, e3] at h
    exact e2 h
  · refine ⟨by omega, ?_⟩
    have e1 : p.down = { p with deep := p.deep + 1 } := by
      unfold Pst.down
      simp only
      rw [if_neg hd]
    have e3 : ({ p with deep := p.deep + 1 } : Pst).is w = true := hi
    rw [e1, Pst.take, if_pos e3]; rfl
theorem must_e {p : Pst} {w : ByteArray} (h : (p.must w).e = 0) : p.is w = true ∧ p.must w = p.step := by
  unfold Pst.must at h ⊢
  by_cases hi : p.is w = true
  · rw [if_pos hi]; exact ⟨hi, rfl⟩
  · rw [if_neg hi] at h
    exfalso
    unfold Pst.fail at h
    split at h
    · simp at h
    · rename_i hh; exact hh h
theorem name_e {p : Pst} (h : p.name.2.e = 0) : p.tok.kind = 1 ∧ p.name = (p.tok.text, p.step) := by
  unfold Pst.name at h ⊢
  by_cases hi : p.tok.kind = 1
  · rw [if_pos hi]; exact ⟨hi, rfl⟩
  · rw [if_neg hi] at h
    exfalso
    unfold Pst.fail at h
    split at h
    · simp at h
    · rename_i hh; exact hh h
theorem take_e {p : Pst} {w : ByteArray} (hi : p.is w = true) : p.take w = p.step := if_pos hi
theorem chop_of {l : Lv} (hl : chn l = true) {s : ByteArray} (hs : s ∈ l.signs) : ChOp l (opOf s) ∧ 1 ≤ opOf s ∧ opOf s ≤ 11 := by
  cases l <;> simp only [Lv.signs, List.mem_cons, List.not_mem_nil, or_false] at hs
  · subst hs; exact ⟨⟨by decide, by decide, by decide, by decide, by decide, by decide, by decide⟩, by decide, by decide⟩
  · subst hs; exact ⟨⟨by decide, by decide, by decide, by decide, by decide, by decide, by decide⟩, by decide, by decide⟩
  · rcases hs with rfl | rfl <;> exact ⟨⟨by decide, by decide, by decide, by decide, by decide, by decide, by decide⟩, by decide, by decide⟩
  · subst hs; exact ⟨⟨by decide, by decide, by decide, by decide, by decide, by decide, by decide⟩, by decide, by decide⟩
theorem cmp_of {s : ByteArray} (hs : s ∈ cmps) : CmpOp (opOf s) ∧ 1 ≤ opOf s ∧ opOf s ≤ 11 := by
  simp only [cmps, List.mem_cons, List.not_mem_nil, or_false] at hs
  rcases hs with rfl | rfl | rfl | rfl | rfl | rfl <;> exact ⟨⟨by decide, by decide, by decide, by decide, by decide, by decide⟩, by decide, by decide⟩
/-- Parsed from p to q: printed so. -/
def Out (c : Nat) (p : Pst) (lvl : Int) (x : Ex) (q : Pst) : Prop := ∃ t d, Pt x t d ∧ c + (parT lvl x t).length ≤ q.at_ ∧ p.deep + parD lvl x d ≤ 50
theorem Out.weak {c : Nat} {p q : Pst} {a b : Int} {x : Ex} (h : Out c p b x q) (hab : a ≤ b) : Out c p a x q := by
  obtain ⟨t, d, h1, h2, h3⟩ := h
  exact ⟨t, d, h1, Nat.le_trans (Nat.add_le_add_left (parT_le hab x t) _) h2, Nat.le_trans (Nat.add_le_add_left (parD_le hab x d) _) h3⟩
theorem out_bin {c : Nat} {p q q2 : Pst} {op : Int} {x y : Ex} {lvl a b : Int} (h1 : 1 ≤ op) (h2 : op ≤ 11) (ha : asksM op 0 = a) (hb : asksM op 1 = b) (hl : levelM op = lvl) (hx : Out c p a x q) (hy : Out (q.at_ + 1) p b y q2) : Out c p lvl (exOf op [x, y]) q2 := by
  obtain ⟨t, d, p1, p2, p3⟩ := hx
  obtain ⟨u, e, r1, r2, r3⟩ := hy
  refine ⟨_, _, .bin h1 h2 p1 r1, ?_, ?_⟩
  · rw [par_not (show ¬ levelM op < lvl by omega), ha, hb]
    simp only [List.length_append, lnc]
    omega
  · rw [parD_not (show ¬ levelM op < lvl by omega), ha, hb]
    omega
theorem R_out : ∀ (n : Nat) (job : Job) (p : Pst), Good p → VL p → (R n job p).2.e = 0 →
    (∀ l, job = .parse l → Out p.at_ p (lvN l) (R n job p).1 (R n job p).2) ∧
    (∀ l e, job = .loop l e → chn l = true → ∀ c, Out c p (lvN l) e p → Out c p (lvN l) (R n job p).1 (R n job p).2)
  | 0, job, p, hg, hv, he => by
    exfalso
    exact (keeps_fail hg 1 (by decide)).2 he
  | n + 1, .loop l e, p, hg, hv, he => by
    refine ⟨fun _ h => (by cases h), fun l' e' hj hc c ho => ?_⟩
    cases hj
    rw [R] at he ⊢
    generalize hf : (if p.e = 0 then l.signs.find? p.is else none) = f at he ⊢
    cases f with
    | none => exact ho
    | some s =>
      simp only at he ⊢
      split at hf
      · rename_i hpe
        have hi := List.find?_some hf
        have hm := List.mem_of_find?_eq_some hf
        have k1 := keeps_step hg (Pst.is_lt hi) hpe
        have k2 := R_keeps n (.parse l.sub) p.step k1.good
        have k3 := R_keeps n (.loop l (exOf (opOf s) [e, (R n (.parse l.sub) p.step).1])) (R n (.parse l.sub) p.step).2 k2.1.good
        have e2 := keeps_e k3.1 he
        have v2 : VL (R n (.parse l.sub) p.step).2 := by unfold VL; rw [k2.1.l]; exact hv
        obtain ⟨co, c1, c2⟩ := chop_of hc hm
        have o1 := (R_out n (.parse l.sub) p.step k1.good hv e2).1 _ rfl
        have o2 : Out c (R n (.parse l.sub) p.step).2 (lvN l) (exOf (opOf s) [e, (R n (.parse l.sub) p.step).1]) (R n (.parse l.sub) p.step).2 := by
          have := out_bin c1 c2 co.a co.b co.lv ho o1
          obtain ⟨t, d, t1, t2, t3⟩ := this
          exact ⟨t, d, t1, t2, by rw [k2.1.deep]; exact t3⟩
        obtain ⟨t, d, t1, t2, t3⟩ := (R_out n (.loop l _) (R n (.parse l.sub) p.step).2 k2.1.good v2 he).2 l _ rfl hc c o2
        exact ⟨t, d, t1, t2, by rw [k2.1.deep] at t3; exact t3⟩
      · cases hf
  | n + 1, .parse .not, p, hg, hv, he => by
    refine ⟨fun l hl => ?_, fun _ _ h => (by cases h)⟩
    cases hl
    rw [R] at he ⊢
    by_cases hi : p.is bNot = true
    · rw [if_pos hi] at he ⊢
      have hd := down_good hg (Pst.is_e hi)
      have hk := keeps_take hd.1 bNot
      have hr := R_keeps n (.parse .not) (p.down.take bNot) hk.good
      have he1 : (R n (.parse .not) (p.down.take bNot)).2.e = 0 := he
      obtain ⟨hd1, hd2⟩ := down_e hi (keeps_e hr.1 he1)
      have hv1 : VL (p.down.take bNot) := by rw [hd2]; exact hv
      obtain ⟨t, d, t1, t2, t3⟩ := (R_out n (.parse .not) (p.down.take bNot) hk.good hv1 he1).1 _ rfl
      refine ⟨_, _, .not t1, ?_, ?_⟩
      · rw [par_not (show ¬ levelM 12 < 3 by decide)]
        have : (p.down.take bNot).at_ = p.at_ + 1 := by rw [hd2]
        show p.at_ + (wordT bNot :: parT 3 _ t).length ≤ (R n (.parse .not) (p.down.take bNot)).2.at_
        rw [this] at t2
        rw [lnc]
        simp only [lvN] at t2
        omega
      · rw [parD_not (show ¬ levelM 12 < 3 by decide)]
        have : (p.down.take bNot).deep = p.deep + 1 := by rw [hd2]
        rw [this] at t3
        simp only [lvN] at t3
        omega
    · rw [if_neg hi] at he ⊢
      exact ((R_out n (.parse .test) p hg hv he).1 _ rfl).weak (by decide)
  | n + 1, .parse .test, p, hg, hv, he => by
    refine ⟨fun l hl => ?_, fun _ _ h => (by cases h)⟩
    cases hl
    have hr := R_keeps n (.parse .sum) p hg
    have ho := fun he => (R_out n (.parse .sum) p hg hv he).1 _ rfl
    rw [R] at he ⊢
    generalize R n (.parse .sum) p = r at hr ho he ⊢
    have vr : VL r.2 := by unfold VL; rw [hr.1.l]; exact hv
    cases hf : cmps.find? r.2.is with
    | some s =>
      rw [hf] at he
      simp only at he ⊢
      have hi := List.find?_some hf
      have h1 := keeps_step hr.1.good (Pst.is_lt hi) (Pst.is_e hi)
      obtain ⟨co, c1, c2⟩ := cmp_of (List.mem_of_find?_eq_some hf)
      have o2 := (R_out n (.parse .sum) r.2.step h1.good vr he).1 _ rfl
      have e3 : r.2.step.deep = p.deep := hr.1.deep
      refine out_bin (a := 5) (b := 5) c1 c2 co.a co.b co.l (ho (Pst.is_e hi)) ?_
      obtain ⟨t, d, t1, t2, t3⟩ := o2
      exact ⟨t, d, t1, t2, by rw [← e3]; exact t3⟩
    | none =>
      rw [hf] at he
      simp only at he ⊢
      by_cases hi : r.2.is bIs = true
      · rw [if_pos hi] at he ⊢
        obtain ⟨t, d, t1, t2, t3⟩ := ho (Pst.is_e hi)
        simp only [lvN] at t2 t3
        by_cases hn : r.2.step.is bNot = true
        · rw [take_e hn] at he ⊢
          rw [if_pos hn]
          obtain ⟨_, m2⟩ := must_e he
          refine ⟨_, _, .nnl t1, ?_, ?_⟩
          · rw [par_not (show ¬ levelM 14 < 4 by decide)]
            simp only [m2, List.length_append, lnc, lnn]
            show _ ≤ r.2.at_ + 1 + 1 + 1
            omega
          · rw [parD_not (show ¬ levelM 14 < 4 by decide)]; exact t3
        · have hn' : r.2.step.take bNot = r.2.step := if_neg hn
          rw [hn'] at he ⊢
          rw [if_neg hn]
          obtain ⟨_, m2⟩ := must_e he
          refine ⟨_, _, .isn t1, ?_, ?_⟩
          · rw [par_not (show ¬ levelM 13 < 4 by decide)]
            simp only [m2, List.length_append, lnc, lnn]
            show _ ≤ r.2.at_ + 1 + 1
            omega
          · rw [parD_not (show ¬ levelM 13 < 4 by decide)]; exact t3
      · rw [if_neg hi] at he ⊢
        exact (ho he).weak (by decide)
  | n + 1, .parse .atom, p, hg, hv, he => by
    refine ⟨fun l hl => ?_, fun _ _ h => (by cases h)⟩
    cases hl
    have hvt := tok_vt hv
    rw [R] at he ⊢
    by_cases h3 : p.tok.kind = 3
    · rw [if_pos h3] at he ⊢
      refine ⟨_, _, .int (hvt.lo h3) (hvt.hi h3), ?_, ?_⟩
      · rw [par_not (show ¬ levelM 16 < 7 by decide)]; exact ler _
      · rw [parD_not (show ¬ levelM 16 < 7 by decide)]; exact hg.dp (Pst.tok_e (by rw [h3]; decide))
    · rw [if_neg h3] at he ⊢
      by_cases h4 : p.tok.kind = 4
      · rw [if_pos h4] at he ⊢
        refine ⟨_, _, .txt (hvt.txt h4), ?_, ?_⟩
        · rw [par_not (show ¬ levelM 16 < 7 by decide)]; exact ler _
        · rw [parD_not (show ¬ levelM 16 < 7 by decide)]; exact hg.dp (Pst.tok_e (by rw [h4]; decide))
      · rw [if_neg h4] at he ⊢
        by_cases h5 : p.is bNull = true
        · rw [if_pos h5] at he ⊢
          refine ⟨_, _, .null, ?_, ?_⟩
          · rw [par_not (show ¬ levelM 16 < 7 by decide)]; exact ler _
          · rw [parD_not (show ¬ levelM 16 < 7 by decide)]; exact hg.dp (Pst.is_e h5)
        · rw [if_neg h5] at he ⊢
          by_cases hi : p.is bOpen = true
          · rw [if_pos hi] at he ⊢
            have hd := down_good hg (Pst.is_e hi)
            have hk := keeps_take hd.1 bOpen
            have hr := R_keeps n (.parse .or) (p.down.take bOpen) hk.good
            have he0 : ((R n (.parse .or) (p.down.take bOpen)).2.must bClose).e = 0 := he
            obtain ⟨m1, m2⟩ := must_e he0
            have he1 : (R n (.parse .or) (p.down.take bOpen)).2.e = 0 := Pst.is_e m1
            obtain ⟨hd1, hd2⟩ := down_e hi (keeps_e hr.1 he1)
            have hv1 : VL (p.down.take bOpen) := by rw [hd2]; exact hv
            obtain ⟨t, d, t1, t2, t3⟩ := (R_out n (.parse .or) (p.down.take bOpen) hk.good hv1 he1).1 _ rfl
            have e1 : (p.down.take bOpen).at_ = p.at_ + 1 := by rw [hd2]
            have e2 : (p.down.take bOpen).deep = p.deep + 1 := by rw [hd2]
            rw [e1] at t2
            rw [e2] at t3
            have l1 : t.length ≤ (parT (lvN .or) (R n (.parse .or) (p.down.take bOpen)).1 t).length := by unfold parT; split <;> simp; omega
            have l2 : d ≤ parD (lvN .or) (R n (.parse .or) (p.down.take bOpen)).1 d := by unfold parD; split <;> omega
            have l3 := parT_up 7 (R n (.parse .or) (p.down.take bOpen)).1 t
            have l4 := parD_up 7 (R n (.parse .or) (p.down.take bOpen)).1 d
            refine ⟨t, d, t1, ?_, ?_⟩
            · show p.at_ + (parT 7 (R n (.parse .or) (p.down.take bOpen)).1 t).length ≤ ((R n (.parse .or) (p.down.take bOpen)).2.must bClose).at_
              rw [m2]
              show _ ≤ (R n (.parse .or) (p.down.take bOpen)).2.at_ + 1
              omega
            · show p.deep + parD 7 (R n (.parse .or) (p.down.take bOpen)).1 d ≤ 50
              omega
          · rw [if_neg hi] at he ⊢
            unfold Pst.col at he ⊢
            by_cases hdot : p.name.2.is ⟨#[46]⟩ = true
            · rw [if_pos hdot] at he ⊢
              obtain ⟨n1, n2⟩ := name_e (Pst.is_e hdot)
              rw [n2] at he ⊢
              simp only at he ⊢
              obtain ⟨n3, n4⟩ := name_e he
              rw [n4]
              have hv2 : VTok p.step.step.tok := tok_vt (p := p.step.step) hv
              refine ⟨_, _, .col (hvt.name n1) (hv2.name n3), ?_, ?_⟩
              · rw [par_not (show ¬ levelM 15 < 7 by decide)]; exact ler _
              · rw [parD_not (show ¬ levelM 15 < 7 by decide)]; exact hg.dp (Pst.tok_e (by rw [n1]; decide))
            · rw [if_neg hdot] at he ⊢
              obtain ⟨n1, n2⟩ := name_e he
              rw [n2]
              refine ⟨_, _, .col0 (hvt.name n1), ?_, ?_⟩
              · rw [par_not (show ¬ levelM 15 < 7 by decide)]; exact ler _
              · rw [parD_not (show ¬ levelM 15 < 7 by decide)]; exact hg.dp (Pst.tok_e (by rw [n1]; decide))
  | n + 1, .parse .or, p, hg, hv, he => ⟨fun l hl => by
      cases hl
      have k1 := R_keeps n (.parse (Lv.sub .or)) p hg
      have k2 := R_keeps n (.loop .or (R n (.parse (Lv.sub .or)) p).1) (R n (.parse (Lv.sub .or)) p).2 k1.1.good
      have v1 : VL (R n (.parse (Lv.sub .or)) p).2 := by unfold VL; rw [k1.1.l]; exact hv
      obtain ⟨t, d, t1, t2, t3⟩ := ((R_out n (.parse (Lv.sub .or)) p hg hv (keeps_e k2.1 he)).1 _ rfl).weak (a := lvN .or) (by decide)
      obtain ⟨u, e, u1, u2, u3⟩ := (R_out n (.loop .or (R n (.parse (Lv.sub .or)) p).1) (R n (.parse (Lv.sub .or)) p).2 k1.1.good v1 he).2 _ _ rfl rfl p.at_ ⟨t, d, t1, t2, by rw [k1.1.deep]; exact t3⟩
      exact ⟨u, e, u1, u2, by rw [k1.1.deep] at u3; exact u3⟩, fun _ _ h => (by cases h)⟩
  | n + 1, .parse .and, p, hg, hv, he => ⟨fun l hl => by
      cases hl
      have k1 := R_keeps n (.parse (Lv.sub .and)) p hg
      have k2 := R_keeps n (.loop .and (R n (.parse (Lv.sub .and)) p).1) (R n (.parse (Lv.sub .and)) p).2 k1.1.good
      have v1 : VL (R n (.parse (Lv.sub .and)) p).2 := by unfold VL; rw [k1.1.l]; exact hv
      obtain ⟨t, d, t1, t2, t3⟩ := ((R_out n (.parse (Lv.sub .and)) p hg hv (keeps_e k2.1 he)).1 _ rfl).weak (a := lvN .and) (by decide)
      obtain ⟨u, e, u1, u2, u3⟩ := (R_out n (.loop .and (R n (.parse (Lv.sub .and)) p).1) (R n (.parse (Lv.sub .and)) p).2 k1.1.good v1 he).2 _ _ rfl rfl p.at_ ⟨t, d, t1, t2, by rw [k1.1.deep]; exact t3⟩
      exact ⟨u, e, u1, u2, by rw [k1.1.deep] at u3; exact u3⟩, fun _ _ h => (by cases h)⟩
  | n + 1, .parse .sum, p, hg, hv, he => ⟨fun l hl => by
      cases hl
      have k1 := R_keeps n (.parse (Lv.sub .sum)) p hg
      have k2 := R_keeps n (.loop .sum (R n (.parse (Lv.sub .sum)) p).1) (R n (.parse (Lv.sub .sum)) p).2 k1.1.good
      have v1 : VL (R n (.parse (Lv.sub .sum)) p).2 := by unfold VL; rw [k1.1.l]; exact hv
      obtain ⟨t, d, t1, t2, t3⟩ := ((R_out n (.parse (Lv.sub .sum)) p hg hv (keeps_e k2.1 he)).1 _ rfl).weak (a := lvN .sum) (by decide)
      obtain ⟨u, e, u1, u2, u3⟩ := (R_out n (.loop .sum (R n (.parse (Lv.sub .sum)) p).1) (R n (.parse (Lv.sub .sum)) p).2 k1.1.good v1 he).2 _ _ rfl rfl p.at_ ⟨t, d, t1, t2, by rw [k1.1.deep]; exact t3⟩
      exact ⟨u, e, u1, u2, by rw [k1.1.deep] at u3; exact u3⟩, fun _ _ h => (by cases h)⟩
  | n + 1, .parse .prod, p, hg, hv, he => ⟨fun l hl => by
      cases hl
      have k1 := R_keeps n (.parse (Lv.sub .prod)) p hg
      have k2 := R_keeps n (.loop .prod (R n (.parse (Lv.sub .prod)) p).1) (R n (.parse (Lv.sub .prod)) p).2 k1.1.good
      have v1 : VL (R n (.parse (Lv.sub .prod)) p).2 := by unfold VL; rw [k1.1.l]; exact hv
      obtain ⟨t, d, t1, t2, t3⟩ := ((R_out n (.parse (Lv.sub .prod)) p hg hv (keeps_e k2.1 he)).1 _ rfl).weak (a := lvN .prod) (by decide)
      obtain ⟨u, e, u1, u2, u3⟩ := (R_out n (.loop .prod (R n (.parse (Lv.sub .prod)) p).1) (R n (.parse (Lv.sub .prod)) p).2 k1.1.good v1 he).2 _ _ rfl rfl p.at_ ⟨t, d, t1, t2, by rw [k1.1.deep]; exact t3⟩
      exact ⟨u, e, u1, u2, by rw [k1.1.deep] at u3; exact u3⟩, fun _ _ h => (by cases h)⟩

end Go.Par
