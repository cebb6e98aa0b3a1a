import Derived.Test.YtihcfphmikebgaaDoorPrt44
namespace Go.Par
open Go Go.Am Go.Proofs Go.RowKit
set_option linter.unusedVariables false
set_option linter.unusedSimpArgs false

/-! Queries: written forms; what is parsed has one -/
abbrev commaT : Tk := ⟨5, bComma, 0⟩
abbrev starT : Tk := ⟨5, bStar, 0⟩
theorem parD1 {x : Ex} {d : Nat} : parD (lvN .or) x d = d := parD_not (by have := levelM_ge x.op; simp only [lvN]; omega)
theorem parT1 {x : Ex} {t : List Tk} : parT (lvN .or) x t = t := par_not (by have := levelM_ge x.op; simp only [lvN]; omega)
inductive PtI : Ex → List Tk → Prop where
  | ex {x : Ex} {t : List Tk} {d : Nat} (h : Pt x t d) (hd : d ≤ 50) : PtI x t
  | count : PtI (exOf 17 []) [wordT bCount, openT, starT, closeT]
  | agg {op : Int} {x : Ex} {t : List Tk} {d : Nat} (h1 : 18 ≤ op) (h2 : op ≤ 21) (h : Pt x t d) (hd : d ≤ 50) : PtI (exOf op [x]) (wordT (opM op) :: openT :: (t ++ [closeT]))
inductive PtC : Ex → List Tk → Prop where
  | col0 {name : ByteArray} (h : nameOk name) : PtC (exCol bs0 name) [nameT name]
  | col {tab name : ByteArray} (ht : nameOk tab) (h : nameOk name) : PtC (exCol tab name) [nameT tab, dotT, nameT name]
inductive LsT (P : Ex → List Tk → Prop) : List Ex → List Tk → Prop where
  | one {x : Ex} {t : List Tk} (h : P x t) : LsT P [x] t
  | cons {x : Ex} {t u : List Tk} {l : List Ex} (h : P x t) (hr : LsT P l u) : LsT P (x :: l) (t ++ commaT :: u)
def asT (a : ByteArray) : List Tk := if a = bs0 then [] else [nameT a]
def asOk (a : ByteArray) : Prop := a = bs0 ∨ nameOk a
def jnT (j : Int) : List Tk := if j = 1 then [wordT bJoin] else [wordT (if j = 2 then ⟨#[108, 101, 102, 116]⟩ else if j = 3 then ⟨#[115, 101, 109, 105]⟩ else ⟨#[97, 110, 116, 105]⟩), wordT bJoin]
structure FrOk (f : Fr) (t : List Tk) (d : Nat) : Prop where
  j1 : 1 ≤ f.join
  j4 : f.join ≤ 4
  nm : nameOk f.table
  as_ : asOk f.as_
  on : Pt f.on t d
  dp : d ≤ 50
inductive FsT : List Fr → List Tk → Prop where
  | nil : FsT [] []
  | cons {f : Fr} {t u : List Tk} {d : Nat} {l : List Fr} (h : FrOk f t d) (hr : FsT l u) : FsT (f :: l) (jnT f.join ++ nameT f.table :: (asT f.as_ ++ wordT bOn :: (t ++ u)))
/-- The query's own tokens. -/
structure QyT (q : Qy) (i g f w : List Tk) (f0 : Fr) (fs : List Fr) : Prop where
  items : LsT PtI q.items i
  il : q.items.length ≤ 16
  frm : q.frm = f0 :: fs
  fl : fs.length ≤ 7
  j0 : f0.join = 0
  nm : nameOk f0.table
  as_ : asOk f0.as_
  on0 : f0.on = Ex.zero
  fs : FsT fs f
  whr : (q.whr = Ex.zero ∧ w = []) ∨ ∃ t d, Pt q.whr t d ∧ d ≤ 50 ∧ w = wordT bWhere :: t
  grp : (q.group = [] ∧ g = []) ∨ ∃ t, LsT PtC q.group t ∧ q.group.length ≤ 8 ∧ g = wordT bGroup :: wordT bBy :: t
def qyTk (i g f w : List Tk) (f0 : Fr) : List Tk := wordT bSel :: (i ++ wordT bFrom :: nameT f0.table :: (asT f0.as_ ++ (f ++ (w ++ g))))
theorem orM_out {p : Pst} (hg : Good p) (hv : VL p) (h0 : p.deep = 0) (he : (orM p).2.e = 0) : ∃ t d, Pt (orM p).1 t d ∧ p.at_ + t.length ≤ (orM p).2.at_ ∧ d ≤ 50 := by
  obtain ⟨t, d, h1, h2, h3⟩ := (R_out 20007 (.parse .or) p hg hv he).1 .or rfl
  rw [parT1] at h2
  rw [parD1, h0] at h3
  exact ⟨t, d, h1, h2, by omega⟩
theorem aggM_out {op : Int} {p : Pst} (h1 : 18 ≤ op) (h2 : op ≤ 21) (hg : Good p) (hv : VL p) (h0 : p.deep = 0) (he : (aggM op p).2.e = 0) : ∃ t, PtI (aggM op p).1 t ∧ p.at_ + t.length ≤ (aggM op p).2.at_ + 2 := by
  obtain ⟨m1, m2⟩ := must_e (p := (orM p).2) (w := bClose) he
  obtain ⟨t, d, t1, t2, t3⟩ := orM_out hg hv h0 (Pst.is_e m1)
  refine ⟨_, .agg h1 h2 t1 t3, ?_⟩
  show _ ≤ ((orM p).2.must bClose).at_ + 2
  rw [m2]
  show _ ≤ (orM p).2.at_ + 1 + 2
  simp only [lnc, List.length_append, lnn]
  omega
theorem take_at {p : Pst} {w : ByteArray} (h : p.is w = true) : (p.take w).at_ = p.at_ + 1 := by rw [take_e h]; rfl
theorem vl_of {p q : Pst} (hk : Keeps p q) (h : VL p) : VL q := by unfold VL; rw [hk.l]; exact h
theorem itemM_out {p : Pst} (hg : Good p) (hv : VL p) (h0 : p.deep = 0) (he : (itemM p).2.e = 0) : ∃ t, PtI (itemM p).1 t ∧ p.at_ + t.length ≤ (itemM p).2.at_ := by
  have k1 := keeps_take hg bCount
  have k2 := k1.trans (keeps_take k1.good bSum)
  have k3 := k2.trans (keeps_take k2.good bMin)
  have k4 := k3.trans (keeps_take k3.good bMax)
  have sub : ∀ {op : Int} {r : Pst}, 18 ≤ op → op ≤ 21 → Keeps p r → p.at_ + 1 ≤ r.at_ → (aggM op (r.must bOpen)).2.e = 0 → ∃ t, PtI (aggM op (r.must bOpen)).1 t ∧ p.at_ + t.length ≤ (aggM op (r.must bOpen)).2.at_ := fun {op r} h1 h2 kr ha hh => by
    have km := (keeps_must kr.good bOpen).1
    have ka := aggM_keeps (op := op) km.good
    obtain ⟨m1, m2⟩ := must_e (keeps_e ka hh)
    have kt := kr.trans km
    obtain ⟨t, t1, t2⟩ := aggM_out h1 h2 km.good (vl_of kt hv) (kt.deep.trans h0) hh
    refine ⟨t, t1, ?_⟩
    have : (r.must bOpen).at_ = r.at_ + 1 := by rw [m2]; rfl
    omega
  unfold itemM at he ⊢
  by_cases c1 : p.is bCount = true
  · rw [if_pos c1] at he ⊢
    have a1 := take_at c1
    have km := (keeps_must k1.good bOpen).1
    unfold countM at he ⊢
    by_cases cs : ((p.take bCount).must bOpen).is bStar = true
    · rw [if_pos cs] at he ⊢
      refine ⟨_, .count, ?_⟩
      obtain ⟨m1, m2⟩ := must_e (p := ((p.take bCount).must bOpen).take bStar) (w := bClose) he
      obtain ⟨m3, m4⟩ := must_e (p := p.take bCount) (w := bOpen) (Pst.is_e cs)
      have a2 := take_at cs
      have a3 : ((p.take bCount).must bOpen).at_ = (p.take bCount).at_ + 1 := by rw [m4]; rfl
      have a4 : (((((p.take bCount).must bOpen).take bStar).must bClose)).at_ = (((p.take bCount).must bOpen).take bStar).at_ + 1 := by rw [m2]; rfl
      simp only [lnc, lnn]
      omega
    · rw [if_neg cs] at he ⊢
      have e0 : ((p.take bCount).must bOpen).take bStar = (p.take bCount).must bOpen := if_neg cs
      rw [e0] at he ⊢
      exact sub (by decide) (by decide) k1 (by omega) he
  · rw [if_neg c1] at he ⊢
    by_cases c2 : (p.take bCount).is bSum = true
    · rw [if_pos c2] at he ⊢
      exact sub (by decide) (by decide) k2 (by rw [take_at c2]; have := k1.at_; omega) he
    · rw [if_neg c2] at he ⊢
      by_cases c3 : ((p.take bCount).take bSum).is bMin = true
      · rw [if_pos c3] at he ⊢
        exact sub (by decide) (by decide) k3 (by rw [take_at c3]; have := k2.at_; omega) he
      · rw [if_neg c3] at he ⊢
        by_cases c4 : (((p.take bCount).take bSum).take bMin).is bMax = true
        · rw [if_pos c4] at he ⊢
          exact sub (by decide) (by decide) k4 (by rw [take_at c4]; have := k3.at_; omega) he
        · rw [if_neg c4] at he ⊢
          obtain ⟨t, d, t1, t2, t3⟩ := orM_out k4.good (vl_of k4 hv) (k4.deep.trans h0) he
          exact ⟨t, .ex t1 t3, by have := k4.at_; omega⟩
theorem col_out {p : Pst} (hg : Good p) (hv : VL p) (h0 : p.deep = 0) (he : p.col.2.e = 0) : ∃ t, PtC p.col.1 t ∧ p.at_ + t.length ≤ p.col.2.at_ := by
  have hvt := tok_vt hv
  unfold Pst.col at he ⊢
  by_cases hdot : p.name.2.is ⟨#[46]⟩ = true
  · rw [if_pos hdot] at he ⊢
    obtain ⟨n1, n2⟩ := name_e (Pst.is_e hdot)
    rw [n2] at he ⊢
    simp only at he ⊢
    obtain ⟨n3, n4⟩ := name_e he
    rw [n4]
    have hv2 : VTok p.step.step.tok := tok_vt (p := p.step.step) hv
    exact ⟨_, .col (hvt.name n1) (hv2.name n3), ler _⟩
  · rw [if_neg hdot] at he ⊢
    obtain ⟨n1, n2⟩ := name_e he
    rw [n2]
    exact ⟨_, .col0 (hvt.name n1), ler _⟩
theorem lim_e {most k : Nat} {q : Pst} (h : (limM most k q).e = 0) : k ≤ most ∧ limM most k q = q := by
  unfold limM at h ⊢
  split
  · rename_i hh
    rw [if_pos hh] at h
    exfalso
    unfold Pst.fail at h
    split at h
    · simp at h
    · rename_i h2; exact h2 h
  · rename_i hh; exact ⟨by omega, rfl⟩
theorem lstM_out {P : Ex → List Tk → Prop} {part : Pst → Ex × Pst} {most : Nat} (hk : ∀ q, Good q → Keeps q (part q).2) (ho : ∀ p, Good p → VL p → p.deep = 0 → (part p).2.e = 0 → ∃ t, P (part p).1 t ∧ p.at_ + t.length ≤ (part p).2.at_) :
    ∀ (n : Nat) (p : Pst) (l : List Ex), Good p → VL p → p.deep = 0 → p.l.length - p.at_ < n → (lstM part most n p l).2.e = 0 → ∃ xs t, (lstM part most n p l).1 = l ++ xs ∧ LsT P xs t ∧ p.at_ + t.length ≤ (lstM part most n p l).2.at_ ∧ l.length + xs.length ≤ most
  | 0, p, l, hg, hv, h0, hn, he => by omega
  | n + 1, p, l, hg, hv, h0, hn, he => by
    have k1 := hk p hg
    have k2 := k1.trans (lim_keeps (most := most) (k := l.length + 1) k1.good)
    have kt := keeps_take k2.good bComma
    have k3 := k2.trans kt
    have hpe : p.e = 0 := keeps_e (lstM_keeps hk (n + 1) p l hg) he
    rw [lstM, if_pos hpe] at he ⊢
    by_cases hc : (limM most (l.length + 1) (part p).2).is bComma = true
    · rw [if_pos hc] at he ⊢
      obtain ⟨e1, e2⟩ := lim_e (Pst.is_e hc)
      have e3 : (part p).2.e = 0 := by have := Pst.is_e hc; rwa [e2] at this
      obtain ⟨t, t1, t2⟩ := ho p hg hv h0 e3
      have ha := take_at hc
      rw [e2] at ha
      have hlt := Pst.is_lt hc
      rw [k2.l, e2] at hlt
      have hl3 := k3.l
      have hak := k1.at_
      rw [e2] at hl3 he ⊢
      rw [e2] at k3
      obtain ⟨xs, u, u1, u2, u3, u4⟩ := lstM_out hk ho n _ (l ++ [(part p).1]) k3.good (vl_of k3 hv) (k3.deep.trans h0) (by rw [hl3, ha]; omega) he
      refine ⟨(part p).1 :: xs, _, by rw [u1]; simp, .cons t1 u2, ?_, ?_⟩
      · simp only [List.length_append, lnc]
        omega
      · simp only [List.length_append, lnc, lnn] at u4 ⊢
        omega
    · rw [if_neg hc] at he ⊢
      have e0 : (limM most (l.length + 1) (part p).2).take bComma = limM most (l.length + 1) (part p).2 := if_neg hc
      simp only [e0] at he ⊢
      obtain ⟨e1, e2⟩ := lim_e he
      rw [e2] at he ⊢
      obtain ⟨t, t1, t2⟩ := ho p hg hv h0 he
      exact ⟨[(part p).1], t, rfl, .one t1, t2, by simpa using e1⟩
theorem name_vt {p : Pst} (hv : VL p) (he : p.name.2.e = 0) : nameOk p.name.1 ∧ p.name.2.at_ = p.at_ + 1 := by
  obtain ⟨n1, n2⟩ := name_e he
  rw [n2]
  exact ⟨(tok_vt hv).name n1, rfl⟩
theorem asT_len (a : ByteArray) : (asT a).length ≤ 1 := by unfold asT; split <;> simp
theorem asM_out {p : Pst} (hg : Good p) (hv : VL p) (he : (asM p).2.e = 0) : asOk (asM p).1 ∧ p.at_ + (asT (asM p).1).length ≤ (asM p).2.at_ := by
  have k1 := keeps_take hg bAs
  have hv1 : VL (p.take bAs) := vl_of k1 hv
  unfold asM at he ⊢
  split
  · rename_i hh
    rw [if_pos hh] at he
    obtain ⟨h1, h2⟩ := name_vt hv1 he
    have := asT_len (p.take bAs).name.1
    have := k1.at_
    exact ⟨.inr h1, by omega⟩
  · exact ⟨.inl rfl, by have := k1.at_; simp [asT]; omega⟩
theorem tableM_out {j : Int} {p : Pst} (hg : Good p) (hv : VL p) (he : (tableM j p).2.e = 0) : nameOk (tableM j p).1.table ∧ asOk (tableM j p).1.as_ ∧ p.at_ + 1 + (asT (tableM j p).1.as_).length ≤ (tableM j p).2.at_ := by
  have kn := (keeps_name hg).1
  have he1 : p.name.2.e = 0 := keeps_e (asM_keeps kn.good) he
  obtain ⟨h1, h2⟩ := name_vt hv he1
  obtain ⟨h3, h4⟩ := asM_out kn.good (vl_of kn hv) he
  exact ⟨h1, h3, by rw [← h2]; exact h4⟩
theorem joinOf_range (s : ByteArray) : 0 ≤ joinOf s ∧ joinOf s ≤ 4 := by
  unfold joinOf
  split
  · decide
  · split
    · decide
    · split
      · decide
      · split <;> decide
theorem jnT_len (j : Int) : (jnT j).length = if j = 1 then 1 else 2 := by unfold jnT; split <;> rfl
theorem frmL_out : ∀ (n : Nat) (p : Pst) (l : List Fr), Good p → VL p → p.deep = 0 → p.l.length - p.at_ < n → (frmL n p l).2.e = 0 → ∃ fs t, (frmL n p l).1 = l ++ fs ∧ FsT fs t ∧ p.at_ + t.length ≤ (frmL n p l).2.at_ ∧ (fs ≠ [] → l.length + fs.length ≤ 8)
  | 0, p, l, hg, hv, h0, hn, he => by omega
  | n + 1, p, l, hg, hv, h0, hn, he => by
    have hpe : p.e = 0 := keeps_e (frmL_keeps (n + 1) p l hg) he
    rw [frmL, if_pos hpe] at he ⊢
    by_cases hb : p.tok.kind ≠ 2 ∨ joinOf p.tok.text = 0
    · rw [if_pos hb]
      exact ⟨[], [], by simp, .nil, ler _, fun h => absurd rfl h⟩
    · rw [if_neg hb] at he ⊢
      have hk : p.tok.kind = 2 := Classical.byContradiction fun hh => hb (.inl hh)
      have hj : ¬ joinOf p.tok.text = 0 := fun hh => hb (.inr hh)
      have hlt := Pst.tok_lt (p := p) (by rw [hk]; decide)
      have k0 := keeps_step hg hlt hpe
      have kP := frP_keeps hg hk
      have kT := tableM_keeps (join := joinOf p.tok.text) kP.good
      have kM := keeps_must kT.good bOn
      have kO := orM_keeps kM.1.good
      have kF := frO_keeps hg hk
      have kL := kF.trans (lim_keeps (most := 8) (k := l.length + 1) kF.good)
      have kR := frmL_keeps n _ (l ++ [frX p]) kL.good
      have eL := keeps_e kR he
      obtain ⟨e1, e2⟩ := lim_e eL
      rw [e2] at he kL eL ⊢
      have eO : (orM ((frT p).2.must bOn)).2.e = 0 := eL
      obtain ⟨m1, m2⟩ := must_e (keeps_e kO eO)
      have eT := Pst.is_e m1
      have v1 : VL p.step := hv
      have vP := vl_of kP v1
      have vT : VL (frT p).2 := vl_of kT vP
      have d0 : p.step.deep = 0 := h0
      have dT : (frT p).2.deep = 0 := kT.deep.trans (kP.deep.trans d0)
      obtain ⟨t, d, t1, t2, t3⟩ := orM_out kM.1.good (vl_of kM.1 vT) (kM.1.deep.trans dT) eO
      obtain ⟨q1, q2, q3⟩ := tableM_out (j := joinOf p.tok.text) kP.good vP eT
      have eP : (frP p).e = 0 := keeps_e kT eT
      have aP : p.at_ + (jnT (joinOf p.tok.text)).length ≤ (frP p).at_ := by
        rw [jnT_len]
        by_cases h1 : joinOf p.tok.text = 1
        · rw [if_pos h1, frP_f h1]; exact ler _
        · rw [if_neg h1]
          rw [frP_t h1] at eP ⊢
          rw [(must_e eP).2]; exact ler _
      have aM : ((tableM (joinOf p.tok.text) (frP p)).2.must bOn).at_ = (tableM (joinOf p.tok.text) (frP p)).2.at_ + 1 := by rw [m2]; rfl
      have r := joinOf_range p.tok.text
      have ok : FrOk (frX p) t d := ⟨by show 1 ≤ joinOf p.tok.text; omega, r.2, q1, q2, t1, t3⟩
      have lL := kL.l
      have aL := kL.at_
      have l2 : p.step.l = p.l := rfl
      have a2 : p.step.at_ = p.at_ + 1 := rfl
      obtain ⟨fs, u, u1, u2, u3, u4⟩ := frmL_out n (frO p).2 (l ++ [frX p]) kL.good (vl_of kL v1) (kL.deep.trans d0) (by rw [lL, l2]; omega) he
      refine ⟨frX p :: fs, _, by rw [u1]; simp, .cons ok u2, ?_, fun _ => ?_⟩
      · have x1 : (frX p).join = joinOf p.tok.text := rfl
        have x2 : (frX p).as_ = (tableM (joinOf p.tok.text) (frP p)).1.as_ := rfl
        rw [x1, x2]
        simp only [List.length_append, lnc]
        have u3' : (orM ((tableM (joinOf p.tok.text) (frP p)).2.must bOn)).2.at_ + u.length ≤ (frmL n (frO p).2 (l ++ [frX p])).2.at_ := u3
        omega
      · by_cases hfs : fs = []
        · subst hfs; simpa using e1
        · have := u4 hfs
          simp only [List.length_append, lnc, lnn] at this ⊢
          omega
theorem nl_orM {p : Pst} (h : Nl p) : Nl (orM p).2 := R_nl _ _ _ h
theorem nl_aggM {op : Int} {p : Pst} (h : Nl p) : Nl (aggM op p).2 := nl_must (nl_orM h) _
theorem nl_itemM {p : Pst} (h : Nl p) : Nl (itemM p).2 := by
  have h1 := nl_take h bCount
  have h2 := nl_take h1 bSum
  have h3 := nl_take h2 bMin
  have h4 := nl_take h3 bMax
  unfold itemM
  split
  · unfold countM
    split
    · exact nl_must (nl_take (nl_must h1 _) _) _
    · exact nl_aggM (nl_take (nl_must h1 _) _)
  · split
    · exact nl_aggM (nl_must h2 _)
    · split
      · exact nl_aggM (nl_must h3 _)
      · split
        · exact nl_aggM (nl_must h4 _)
        · exact nl_orM h4
theorem nl_lim {most k : Nat} {q : Pst} (h : Nl q) : Nl (limM most k q) := by
  unfold limM
  split
  · exact nl_fail h _
  · exact h
theorem nl_lstM {part : Pst → Ex × Pst} {most : Nat} (hp : ∀ q, Nl q → Nl (part q).2) : ∀ (n : Nat) (p : Pst) (l : List Ex), Nl p → Nl (lstM part most n p l).2
  | 0, p, l, h => h
  | n + 1, p, l, h => by
    rw [lstM]
    split
    · split
      · exact nl_lstM hp n _ _ (nl_take (nl_lim (hp _ h)) _)
      · exact nl_take (nl_lim (hp _ h)) _
    · exact h
theorem nl_tableM {j : Int} {p : Pst} (h : Nl p) : Nl (tableM j p).2 := by
  show Nl (asM p.name.2).2
  unfold asM
  split
  · exact nl_name (nl_take (nl_name h) _)
  · exact nl_take (nl_name h) _
theorem nl_frmL : ∀ (n : Nat) (p : Pst) (l : List Fr), Nl p → Nl (frmL n p l).2
  | 0, p, l, h => h
  | n + 1, p, l, h => by
    rw [frmL]
    split
    · split
      · exact h
      · rename_i hb
        have hk : p.tok.kind ≠ 0 := fun hh => hb (.inl (by rw [hh]; decide))
        have h1 := nl_step h hk
        have h2 : Nl (frP p) := by
          unfold frP
          split
          · exact nl_must h1 _
          · exact h1
        exact nl_frmL n _ _ (nl_lim (nl_orM (nl_must (nl_tableM h2) _)))
    · exact h
theorem queryP_out {s : ByteArray} {q : Qy} (h : queryP s = (q, 0)) : ∃ i g f w f0 fs, QyT q i g f w f0 fs ∧ (qyTk i g f w f0).length + 1 ≤ 1000 := by
  unfold queryP at h
  split at h
  · rename_i hf
    obtain ⟨h1, h2⟩ := fin_e hf
    have hq : (⟨(qyI s).1, (qyF s).1, (qyW (qyF s).2).1, (qyG (qyW (qyF s).2).2).1⟩ : Qy) = q := (Prod.mk.inj h).1
    have hg0 := p0_good s
    have kS := (keeps_must hg0 bSel).1
    have kI := lstM_keeps (most := 16) (fun q hq => itemM_keeps hq) 1001 _ [] kS.good
    have kB := (keeps_must kI.good bFrom).1
    have kT := tableM_keeps (join := 0) kB.good
    have kF := frmL_keeps 1001 _ [(tableM 0 ((qyI s).2.must bFrom)).1] kT.good
    have kFF : Keeps ((qyI s).2.must bFrom) (qyF s).2 := kT.trans kF
    have kW : Keeps (qyF s).2 (qyW (qyF s).2).2 := by
      unfold qyW
      split
      · exact (keeps_take kF.good _).trans (orM_keeps (Good.take kF.good _))
      · exact keeps_take kF.good _
    have kG : Keeps (qyW (qyF s).2).2 (qyG (qyW (qyF s).2).2).2 := by
      unfold qyG
      split
      · exact ((keeps_take kW.good _).trans (keeps_must (kW.good.take _) _).1).trans (lstM_keeps (fun q hq => (keeps_col hq).1) _ _ _ ((kW.good.take _).must _))
      · exact keeps_take kW.good _
    have eW := keeps_e kG h1
    have eF := keeps_e kW eW
    have eT := keeps_e kF eF
    have eB := keeps_e kT eT
    have eI := keeps_e kB eB
    have eS := keeps_e kI eI
    have e0 := keeps_e kS eS
    have hvl : VL (p0 s) := all_vt 1000 0 [] (Nat.zero_le _) (by simp)
    have vS := vl_of kS hvl
    have vI := vl_of kI vS
    have vB := vl_of kB vI
    have vT := vl_of kT vB
    have vF : VL (qyF s).2 := vl_of kF vT
    have vW := vl_of kW vF
    have dS : ((p0 s).must bSel).deep = 0 := kS.deep
    have dI := kI.deep.trans dS
    have dB := kB.deep.trans dI
    have dT := kT.deep.trans dB
    have dF : (qyF s).2.deep = 0 := kF.deep.trans dT
    have dW := kW.deep.trans dF
    obtain ⟨_, mS⟩ := must_e eS
    obtain ⟨_, mB⟩ := must_e eB
    have aS : ((p0 s).must bSel).at_ = 1 := by rw [mS]; rfl
    have aB : ((qyI s).2.must bFrom).at_ = (qyI s).2.at_ + 1 := by rw [mB]; rfl
    obtain ⟨xs, i, i1, i2, i3, i4⟩ := lstM_out (P := PtI) (most := 16) (fun q hq => itemM_keeps hq) (fun p a b c d => itemM_out a b c d) 1001 _ [] kS.good vS dS (by have := kS.good.ok.len; omega) eI
    obtain ⟨t1, t2, t3⟩ := tableM_out kB.good vB eT
    obtain ⟨fs, f, f1, f2, f3, f4⟩ := frmL_out 1001 _ [(tableM 0 ((qyI s).2.must bFrom)).1] kT.good vT dT (by have := kT.good.ok.len; omega) eF
    have hw : ∃ w, (((qyW (qyF s).2).1 = Ex.zero ∧ w = []) ∨ ∃ t d, Pt (qyW (qyF s).2).1 t d ∧ d ≤ 50 ∧ w = wordT bWhere :: t) ∧ (qyF s).2.at_ + w.length ≤ (qyW (qyF s).2).2.at_ := by
      cases hc : (qyF s).2.is bWhere with
      | true =>
        rw [qyW_t hc] at eW ⊢
        have ha := take_at hc
        have kt := keeps_take kF.good bWhere
        obtain ⟨t, d, a, b, c⟩ := orM_out kt.good (vl_of kt vF) (kt.deep.trans dF) eW
        exact ⟨_, .inr ⟨t, d, a, c, rfl⟩, by simp only [lnc]; have : ((qyF s).2.take bWhere).at_ + t.length ≤ (orM ((qyF s).2.take bWhere)).2.at_ := b; omega⟩
      | false =>
        rw [qyW_f hc]
        exact ⟨[], .inl ⟨rfl, rfl⟩, (keeps_take kF.good bWhere).at_⟩
    have hgp : ∃ g, (((qyG (qyW (qyF s).2).2).1 = [] ∧ g = []) ∨ ∃ t, LsT PtC (qyG (qyW (qyF s).2).2).1 t ∧ (qyG (qyW (qyF s).2).2).1.length ≤ 8 ∧ g = wordT bGroup :: wordT bBy :: t) ∧ (qyW (qyF s).2).2.at_ + g.length ≤ (qyG (qyW (qyF s).2).2).2.at_ := by
      cases hc : (qyW (qyF s).2).2.is bGroup with
      | true =>
        rw [qyG_t hc] at h1 ⊢
        have ha := take_at hc
        have kt := keeps_take kW.good bGroup
        have km := (keeps_must kt.good bBy).1
        have kl := lstM_keeps (most := 8) (fun q hq => (keeps_col hq).1) 1001 _ [] km.good
        obtain ⟨_, mm⟩ := must_e (keeps_e kl h1)
        have am : (((qyW (qyF s).2).2.take bGroup).must bBy).at_ = ((qyW (qyF s).2).2.take bGroup).at_ + 1 := by rw [mm]; rfl
        have k2 := kt.trans km
        obtain ⟨ys, t, y1, y2, y3, y4⟩ := lstM_out (P := PtC) (most := 8) (fun q hq => (keeps_col hq).1) (fun p a b c d => col_out a b c d) 1001 _ [] k2.good (vl_of k2 vW) (k2.deep.trans dW) (by have := k2.good.ok.len; omega) h1
        simp only [nap] at y1
        refine ⟨_, .inr ⟨t, by rw [y1]; exact y2, by rw [y1]; simpa using y4, rfl⟩, ?_⟩
        simp only [lnc]
        omega
      | false =>
        rw [qyG_f hc]
        exact ⟨[], .inl ⟨rfl, rfl⟩, (keeps_take kW.good bGroup).at_⟩
    obtain ⟨w, w1, w2⟩ := hw
    obtain ⟨g, g1, g2⟩ := hgp
    simp only [nap] at i1
    subst hq
    refine ⟨i, g, f, w, (tableM 0 ((qyI s).2.must bFrom)).1, fs, ⟨by show LsT PtI (qyI s).1 i; rw [i1]; exact i2, by show (qyI s).1.length ≤ 16; rw [i1]; simpa using i4, f1, ?_, rfl, t1, t2, rfl, f2, w1, g1⟩, ?_⟩
    · by_cases hfs : fs = []
      · subst hfs; simp
      · have := f4 hfs; simp at this; omega
    · have hnl : Nl (p0 s) := all_end 1000 0 [] e0
      have hq : (qyG (qyW (qyF s).2).2).2.at_ < 1000 := by
        have n1 : Nl (qyI s).2 := nl_lstM (fun q h => nl_itemM h) _ _ _ (nl_must hnl _)
        have n2 : Nl (qyF s).2 := nl_frmL _ _ _ (nl_tableM (nl_must n1 _))
        have n3 : Nl (qyW (qyF s).2).2 := by
          unfold qyW
          split
          · exact nl_orM (nl_take n2 _)
          · exact nl_take n2 _
        have n4 : Nl (qyG (qyW (qyF s).2).2).2 := by
          unfold qyG
          split
          · exact nl_lstM (fun q h => nl_col h) _ _ _ (nl_must (nl_take n3 _) _)
          · exact nl_take n3 _
        have := n4.1
        rw [kG.l, kW.l, kFF.l, kB.l, kI.l, kS.l] at this
        have := hg0.ok.len
        omega
      unfold qyTk
      simp only [lnc, List.length_append]
      have z1 : ((p0 s).must bSel).at_ + i.length ≤ (qyI s).2.at_ := i3
      have z2 : (tableM 0 ((qyI s).2.must bFrom)).2.at_ + f.length ≤ (qyF s).2.at_ := f3
      have z3 : ((qyI s).2.must bFrom).at_ + 1 + (asT (tableM 0 ((qyI s).2.must bFrom)).1.as_).length ≤ (tableM 0 ((qyI s).2.must bFrom)).2.at_ := t3
      have z4 : ((qyI s).2.must bFrom).at_ = (qyI s).2.at_ + 1 := aB
      clear f3 t3 aB i3
      omega
  · rename_i hf
    exact absurd (Prod.mk.inj h).2 hf

end Go.Par

namespace Go.Par
open Go Go.Am Go.Proofs Go.RowKit
set_option linter.unusedVariables false
set_option linter.unusedSimpArgs false

/-! Queries: the written form is parsed again -/
structure St0 (p : Pst) (t : List Tk) : Prop where
  e : p.e = 0
  d : p.deep = 0
  len : p.l.length ≤ 1000
  t : toks p = t
theorem St0.mz {p : Pst} {t : List Tk} (h : St0 p t) : mz p ≤ 20000 := by
  have := h.len
  unfold Go.Par.mz
  split <;> omega
theorem St0.step {p : Pst} {k : Tk} {r : List Tk} (h : St0 p (k :: r)) : St0 p.step r := ⟨h.e, h.d, h.len, toks_cons h.t⟩
theorem St0.adv {p : Pst} {t r : List Tk} (h : St0 p (t ++ r)) : St0 (p.adv t.length) r := ⟨h.e, h.d, h.len, toks_app h.t⟩
theorem St0.is {p : Pst} {k : Tk} {r : List Tk} (h : St0 p (k :: r)) (s : ByteArray) : p.is s = k.is s := is_cons h.e h.t s
theorem St0.take {p : Pst} {k : Tk} {r : List Tk} (h : St0 p (k :: r)) {w : ByteArray} (hw : k.is w = true) : p.take w = p.step := take_t (by rw [h.is, hw])
theorem St0.skip {p : Pst} {t : List Tk} (h : St0 p t) {w : ByteArray} (hw : ∀ k r, t = k :: r → k.is w = false) : p.is w = false ∧ p.take w = p := by
  have : p.is w = false := by
    cases t with
    | nil => exact is_nil h.t w
    | cons k r => rw [h.is]; exact hw k r rfl
  exact ⟨this, take_f this⟩
theorem St0.must {p : Pst} {k : Tk} {r : List Tk} (h : St0 p (k :: r)) {w : ByteArray} (hw : k.is w = true) : p.must w = p.step := must_cons h.e h.t hw
theorem St0.kind {p : Pst} {k : Tk} {r : List Tk} (h : St0 p (k :: r)) : p.tok.kind = k.kd ∧ p.tok.text = k.tx := ⟨(tok_kind h.e h.t).1, (tok_kind h.e h.t).2.1⟩
theorem St0.name {p : Pst} {s : ByteArray} {r : List Tk} (h : St0 p (nameT s :: r)) : p.name = (s, p.step) := by
  unfold Pst.name
  rw [if_pos h.kind.1, h.kind.2]
/-- Nothing of an expression goes on, and no comma. -/
def stop (rest : List Tk) : Prop := stp .or rest ∧ ∀ k r, rest = k :: r → k.is bComma = false
theorem or_back {x : Ex} {t rest : List Tk} {d : Nat} {p : Pst} (h : Pt x t d) (hd : d ≤ 50) (hp : St0 p (t ++ rest)) (hs : stp .or rest) : orM p = (x, p.adv t.length) := by
  have := (G_all h).1 .or 20007 p rest hp.e (by rw [parT1]; exact hp.t) hs (by rw [parD1, hp.d]; omega) (by have := hp.mz; simp only [Lv.rank]; omega)
  rw [parT1] at this
  exact this
/-- Heads of written expressions. -/
def hdOk (k : Tk) : Prop := k.kd = 1 ∨ k.kd = 3 ∨ k.kd = 4 ∨ k = wordT bNull ∨ k = wordT bNot ∨ k = openT
theorem par_hd {lvl : Int} {x : Ex} {t s : List Tk} (hn : t ≠ []) (ih : ∀ k r, t = k :: r → hdOk k) : ∀ k r, parT lvl x t ++ s = k :: r → hdOk k := fun k r e => by
  unfold parT at e
  split at e
  · simp only [cap, List.cons.injEq] at e
    rw [← e.1]; exact .inr (.inr (.inr (.inr (.inr rfl))))
  · cases t with
    | nil => exact absurd rfl hn
    | cons a t =>
      simp only [cap, List.cons.injEq] at e
      rw [← e.1]
      exact ih a t rfl
theorem pt_hd {x : Ex} {t : List Tk} {d : Nat} (h : Pt x t d) : ∀ k r, t = k :: r → hdOk k := by
  induction h with
  | col0 h => intro k r e; cases e; exact .inl rfl
  | col ht h => intro k r e; cases e; exact .inl rfl
  | int h0 h1 => intro k r e; cases e; exact .inr (.inl rfl)
  | txt h => intro k r e; cases e; exact .inr (.inr (.inl rfl))
  | null => intro k r e; cases e; exact .inr (.inr (.inr (.inl rfl)))
  | not h ih => intro k r e; cases e; exact .inr (.inr (.inr (.inr (.inl rfl))))
  | isn h ih => exact par_hd (pt_head h).1 ih
  | nnl h ih => exact par_hd (pt_head h).1 ih
  | bin h1 h2 hx hy ix iy => exact par_hd (pt_head hx).1 ix
theorem hd_is {k : Tk} (h : hdOk k) {w : ByteArray} (h1 : bNull ≠ w) (h2 : bNot ≠ w) (h3 : bOpen ≠ w) : k.is w = false := by
  rcases h with h | h | h | rfl | rfl | rfl
  · simp [Tk.is, h]
  · simp [Tk.is, h]
  · simp [Tk.is, h]
  · simp [Tk.is, h1]
  · simp [Tk.is, h2]
  · simp [Tk.is, h3]
theorem adv_step (p : Pst) (k : Nat) : (p.adv k).step = p.adv (k + 1) := rfl
theorem step_advs (p : Pst) (k : Nat) : p.step.adv k = p.adv (k + 1) := by simp [Pst.adv, Pst.step]; omega
theorem stop_close (r : List Tk) : stp .or (closeT :: r) := close_stp r
theorem stop_comma (r : List Tk) : stp .or (commaT :: r) := fun k r e w hw => by
  cases e
  have : ∀ w ∈ cont .or, commaT.is w = false := by decide
  exact this w hw
theorem agg_back {op : Int} {x : Ex} {t rest : List Tk} {d : Nat} {p : Pst} (h : Pt x t d) (hd : d ≤ 50) (hp : St0 p (t ++ closeT :: rest)) : aggM op p = (exOf op [x], p.adv (t.length + 1)) := by
  have e := or_back h hd hp (stop_close _)
  unfold aggM
  rw [e]
  have h2 : St0 (p.adv t.length) (closeT :: rest) := hp.adv
  simp only
  rw [h2.must rfl, adv_step]
theorem item_back {x : Ex} {t rest : List Tk} {p : Pst} (h : PtI x t) (hp : St0 p (t ++ rest)) (hs : stp .or rest) : itemM p = (x, p.adv t.length) := by
  cases h with
  | ex h hd =>
    obtain ⟨k, r, rfl⟩ : ∃ k r, t = k :: r := by
      cases t with
      | nil => exact absurd rfl (pt_head h).1
      | cons k r => exact ⟨k, r, rfl⟩
    have hk := pt_hd h k r rfl
    have hp' : St0 p (k :: (r ++ rest)) := hp
    have sk : ∀ w : ByteArray, bNull ≠ w → bNot ≠ w → bOpen ≠ w → p.is w = false ∧ p.take w = p := fun w a b c => hp'.skip (fun k' r' e => by cases e; exact hd_is hk a b c)
    obtain ⟨a1, a2⟩ := sk bCount (by decide) (by decide) (by decide)
    obtain ⟨b1, b2⟩ := sk bSum (by decide) (by decide) (by decide)
    obtain ⟨c1, c2⟩ := sk bMin (by decide) (by decide) (by decide)
    obtain ⟨d1, d2⟩ := sk bMax (by decide) (by decide) (by decide)
    unfold itemM
    rw [a1, if_neg (by decide), a2, b1, if_neg (by decide), b2, c1, if_neg (by decide), c2, d1, if_neg (by decide), d2]
    exact or_back h hd hp hs
  | count =>
    have h1 : St0 p (wordT bCount :: openT :: starT :: closeT :: rest) := hp
    have e1 := h1.take (w := bCount) rfl
    have e2 := h1.step.must (w := bOpen) rfl
    have e3 := h1.step.step.take (w := bStar) rfl
    have e4 := h1.step.step.step.must (w := bClose) rfl
    unfold itemM countM
    rw [if_pos (by rw [h1.is]; rfl), e1, e2, if_pos (by rw [h1.step.step.is]; rfl), e3, e4]
    try rfl
  | @agg op x t d h1 h2 h hd =>
    have h1' : St0 p (wordT (opM op) :: openT :: (t ++ closeT :: rest)) := by
      have := hp
      simpa using this
    have hop : ∃ n : Nat, op = n := ⟨op.toNat, by omega⟩
    obtain ⟨n, rfl⟩ := hop
    have e2 := h1'.step.must (w := bOpen) rfl
    have ha := fun o => agg_back (op := o) h hd h1'.step.step
    have fin : ∀ o, aggM o p.step.step = (exOf o [x], p.adv (wordT (opM n) :: openT :: (t ++ [closeT])).length) := fun o => by
      rw [ha o, step_advs, step_advs]
      simp only [lnc, List.length_append, lnn]
    have hn : n = 18 ∨ n = 19 ∨ n = 20 ∨ n = 21 := by omega
    have sk : ∀ w : ByteArray, (wordT (opM n)).is w = false → p.is w = false ∧ p.take w = p := fun w hw => h1'.skip (fun k' r' e => by cases e; exact hw)
    unfold itemM
    rcases hn with rfl | rfl | rfl | rfl
    · have hst : p.step.step.is bStar = false ∧ p.step.step.take bStar = p.step.step := by
        obtain ⟨k, r, rfl⟩ : ∃ k r, t = k :: r := by
          cases t with
          | nil => exact absurd rfl (pt_head h).1
          | cons k r => exact ⟨k, r, rfl⟩
        exact h1'.step.step.skip (fun k' r' e => by cases e; exact hd_is (pt_hd h k r rfl) (by decide) (by decide) (by decide))
      rw [if_pos (by rw [h1'.is]; rfl), h1'.take (w := bCount) rfl, e2]
      unfold countM
      rw [hst.1, if_neg (by decide), hst.2]
      exact fin 18
    · obtain ⟨a1, a2⟩ := sk bCount (by decide)
      rw [a1, if_neg (by decide), a2, if_pos (by rw [h1'.is]; rfl), h1'.take (w := bSum) rfl, e2]
      exact fin 19
    · obtain ⟨a1, a2⟩ := sk bCount (by decide)
      obtain ⟨b1, b2⟩ := sk bSum (by decide)
      rw [a1, if_neg (by decide), a2, b1, if_neg (by decide), b2, if_pos (by rw [h1'.is]; rfl), h1'.take (w := bMin) rfl, e2]
      exact fin 20
    · obtain ⟨a1, a2⟩ := sk bCount (by decide)
      obtain ⟨b1, b2⟩ := sk bSum (by decide)
      obtain ⟨c1, c2⟩ := sk bMin (by decide)
      rw [a1, if_neg (by decide), a2, b1, if_neg (by decide), b2, c1, if_neg (by decide), c2, if_pos (by rw [h1'.is]; rfl), h1'.take (w := bMax) rfl, e2]
      exact fin 21
theorem col_back {x : Ex} {t rest : List Tk} {p : Pst} (h : PtC x t) (hp : St0 p (t ++ rest)) (hs : stp .or rest) : p.col = (x, p.adv t.length) := by
  unfold Pst.col
  cases h with
  | col0 hn =>
    have h1 : St0 p (nameT _ :: rest) := hp
    rw [h1.name]
    have : p.step.is dotB = false := (h1.step.skip (fun k r e => hs k r e dotB (by simp [cont]))).1
    simp only
    rw [if_neg (by rw [this]; decide)]
    rfl
  | col ht hn =>
    have h1 : St0 p (nameT _ :: dotT :: nameT _ :: rest) := hp
    rw [h1.name]
    simp only
    rw [if_pos (by rw [h1.step.is]; rfl), h1.step.step.name]
    rfl
theorem lst_back {P : Ex → List Tk → Prop} {part : Pst → Ex × Pst} {most : Nat} (hb : ∀ {x t rest p}, P x t → St0 p (t ++ rest) → stp .or rest → part p = (x, p.adv t.length)) {xs : List Ex} {t : List Tk} (h : LsT P xs t) :
    ∀ (n : Nat) (p : Pst) (l : List Ex) (rest : List Tk), St0 p (t ++ rest) → stop rest → l.length + xs.length ≤ most → xs.length ≤ n → lstM part most n p l = (l ++ xs, p.adv t.length) := by
  induction h with
  | one h =>
    rename_i x t
    intro n p l rest hp hs hm hn
    obtain ⟨k, rfl⟩ : ∃ k, n = k + 1 := ⟨n - 1, by simp at hn; omega⟩
    have e := hb h hp hs.1
    have hl : limM most (l.length + 1) (part p).2 = p.adv t.length := by
      rw [e]; exact lim_f (by simp only [lnc, lnn] at hm; omega)
    obtain ⟨s1, s2⟩ := hp.adv.skip hs.2
    rw [lstM, if_pos hp.e, hl, s1, if_neg (by decide), s2, e]
  | cons h hr ih =>
    rename_i x t u l'
    intro n p l rest hp hs hm hn
    obtain ⟨k, rfl⟩ : ∃ k, n = k + 1 := ⟨n - 1, by simp at hn; omega⟩
    have hp' : St0 p (t ++ (commaT :: (u ++ rest))) := by simpa using hp
    have e := hb h hp' (stop_comma _)
    simp only [lnc] at hm hn
    have hl : limM most (l.length + 1) (part p).2 = p.adv t.length := by
      rw [e]; exact lim_f (by omega)
    have h2 := hp'.adv
    rw [lstM, if_pos hp.e, hl, if_pos (by rw [h2.is]; rfl), h2.take rfl, e, ih k _ _ rest h2.step hs (by simp only [List.length_append, lnc, lnn]; omega) (by omega)]
    simp only [List.append_assoc, cap, nap, List.length_append, lnc, adv_step, adv_adv]
    congr 2
    omega
theorem as_back {a : ByteArray} {rest : List Tk} {p : Pst} (h : asOk a) (hp : St0 p (asT a ++ rest)) (hr : ∀ k r, rest = k :: r → k.is bAs = false ∧ k.kd ≠ 1) (hne : rest ≠ []) : asM p = (a, p.adv (asT a).length) := by
  unfold asM
  rcases h with rfl | h
  · have e0 : asT bs0 = [] := rfl
    rw [e0] at hp ⊢
    have hp : St0 p rest := hp
    obtain ⟨k, r, rfl⟩ : ∃ k r, rest = k :: r := by
      cases rest with
      | nil => exact absurd rfl hne
      | cons k r => exact ⟨k, r, rfl⟩
    obtain ⟨a1, a2⟩ := hr k r rfl
    obtain ⟨s1, s2⟩ := hp.skip (w := bAs) (fun k' r' e => by cases e; exact a1)
    rw [s2, s1, if_neg (by rintro (hh | hh); cases hh; exact a2 (by rw [← hp.kind.1]; exact hh))]
    rfl
  · have e0 : asT a = [nameT a] := if_neg (name_ne h)
    rw [e0] at hp ⊢
    have hp : St0 p (nameT a :: rest) := hp
    obtain ⟨s1, s2⟩ := hp.skip (w := bAs) (fun k' r' e => by cases e; rfl)
    rw [s2, if_pos (.inr hp.kind.1), hp.name]
    rfl
theorem table_back {j : Int} {tb a : ByteArray} {rest : List Tk} {p : Pst} (h : asOk a) (hp : St0 p (nameT tb :: (asT a ++ rest))) (hr : ∀ k r, rest = k :: r → k.is bAs = false ∧ k.kd ≠ 1) (hne : rest ≠ []) : tableM j p = (⟨j, tb, a, Ex.zero⟩, p.adv ((asT a).length + 1)) := by
  unfold tableM
  rw [hp.name]
  simp only
  rw [as_back h hp.step hr hne, step_advs]
theorem jn_of {j : Int} (h1 : 1 ≤ j) (h4 : j ≤ 4) : ∃ k r, jnT j = k :: r ∧ k.kd = 2 ∧ joinOf k.tx = j ∧ k.is bAs = false ∧ k.is bWhere = false ∧ k.is bGroup = false ∧ (∀ w ∈ cont .or, k.is w = false) ∧ k.is bComma = false ∧ ((j = 1 ∧ r = []) ∨ (j ≠ 1 ∧ r = [wordT bJoin])) := by
  obtain ⟨n, rfl⟩ : ∃ n : Nat, j = n := ⟨j.toNat, by omega⟩
  have h1 : 1 ≤ n := by omega
  have : n ≤ 4 := by omega
  match n, h1, this with
  | 1, _, _ => exact ⟨_, _, rfl, rfl, rfl, rfl, rfl, rfl, by decide, rfl, .inl ⟨rfl, rfl⟩⟩
  | 2, _, _ | 3, _, _ | 4, _, _ => exact ⟨_, _, rfl, rfl, rfl, rfl, rfl, rfl, by decide, rfl, .inr ⟨by decide, rfl⟩⟩
/-- What may follow the tables. -/
structure Aft (rest : List Tk) : Prop where
  ne : rest ≠ []
  s : stp .or rest
  as_ : ∀ k r, rest = k :: r → k.is bAs = false ∧ k.kd ≠ 1
  j : ∀ k r, rest = k :: r → k.kd ≠ 2 ∨ joinOf k.tx = 0
theorem fs_head {fs : List Fr} {t rest : List Tk} (h : FsT fs t) (hr : Aft rest) : (t ++ rest ≠ []) ∧ stp .or (t ++ rest) ∧ ∀ k r, t ++ rest = k :: r → k.is bAs = false ∧ k.kd ≠ 1 := by
  cases h with
  | nil => exact ⟨hr.ne, hr.s, hr.as_⟩
  | cons h hr' =>
    obtain ⟨k, r, e, k1, k2, k3, _, _, k6, _⟩ := jn_of h.j1 h.j4
    rw [e]
    refine ⟨by simp, fun k' r' e' w hw => by cases e'; exact k6 w hw, fun k' r' e' => by cases e'; exact ⟨k3, by rw [k1]; decide⟩⟩
theorem frm_back {fs : List Fr} {t : List Tk} (h : FsT fs t) : ∀ (n : Nat) (p : Pst) (l : List Fr) (rest : List Tk), St0 p (t ++ rest) → Aft rest → (fs ≠ [] → l.length + fs.length ≤ 8) → fs.length < n → frmL n p l = (l ++ fs, p.adv t.length) := by
  induction h with
  | nil =>
    intro n p l rest hp hr hm hn
    obtain ⟨k, rfl⟩ : ∃ k, n = k + 1 := ⟨n - 1, by simp at hn; omega⟩
    have hp : St0 p rest := hp
    obtain ⟨k, r, rfl⟩ : ∃ k r, rest = k :: r := by
      cases rest with
      | nil => exact absurd rfl hr.ne
      | cons k r => exact ⟨k, r, rfl⟩
    have hj := hr.j k r rfl
    rw [frmL, if_pos hp.e, if_pos (by rw [hp.kind.1, hp.kind.2]; exact hj)]
    simp [adv_zero]
  | cons h hr' ih =>
    rename_i f t u d fs
    intro n p l rest hp hr hm hn
    simp only [lnc] at hm hn
    obtain ⟨m, rfl⟩ : ∃ m, n = m + 1 := ⟨n - 1, by omega⟩
    have hm := hm (by simp)
    have hp1 : St0 p (jnT f.join ++ (nameT f.table :: (asT f.as_ ++ (wordT bOn :: (t ++ (u ++ rest)))))) := by simpa using hp
    obtain ⟨k, r, e, k1, k2, k3, _, _, k6, _, k8⟩ := jn_of h.j1 h.j4
    have hp2 : St0 p (k :: (r ++ (nameT f.table :: (asT f.as_ ++ (wordT bOn :: (t ++ (u ++ rest))))))) := by rw [e] at hp1; exact hp1
    have t1 : p.tok.kind = 2 := by rw [hp2.kind.1, k1]
    have t2 : joinOf p.tok.text = f.join := by rw [hp2.kind.2, k2]
    have hP : frP p = p.adv (jnT f.join).length := by
      rcases k8 with ⟨c1, c2⟩ | ⟨c1, c2⟩
      · rw [frP_f (by rw [t2, c1]), e, c2]; rfl
      · rw [frP_t (by rw [t2]; exact c1), e, c2]
        subst c2
        have h3 : St0 p.step (wordT bJoin :: (nameT f.table :: (asT f.as_ ++ (wordT bOn :: (t ++ (u ++ rest)))))) := hp2.step
        rw [h3.must rfl]; rfl
    have hp3 := hp1.adv
    rw [← hP] at hp3
    have hT : frT p = (⟨f.join, f.table, f.as_, Ex.zero⟩, (frP p).adv ((asT f.as_).length + 1)) := by
      unfold frT
      rw [t2]
      exact table_back h.as_ hp3 (fun k' r' e' => by cases e'; exact ⟨rfl, by show (2 : Int) ≠ 1; decide⟩) (by simp)
    have hp4 : St0 ((frP p).adv ((asT f.as_).length + 1)) (wordT bOn :: (t ++ (u ++ rest))) := by
      have := hp3.step.adv
      rwa [step_advs] at this
    have hO : frO p = (f.on, ((frP p).adv ((asT f.as_).length + 1)).step.adv t.length) := by
      unfold frO
      rw [hT]
      simp only
      rw [hp4.must rfl]
      exact or_back h.on h.dp hp4.step (fs_head hr' hr).2.1
    have hX : frX p = f := by
      unfold frX
      rw [hT, hO]
    rw [frmL, if_pos hp.e, if_neg (by rintro (hh | hh); exact hh t1; have := h.j1; rw [t2] at hh; omega), hO, hX]
    simp only
    rw [lim_f (by omega), ih m _ _ rest hp4.step.adv hr (fun hne => by simp only [List.length_append, lnc, lnn]; omega) (by omega), hP]
    simp only [List.append_assoc, cap, nap, List.length_append, lnc, adv_step, adv_adv]
    congr 2
    omega
theorem endT_aft (i : Int) : True := trivial
abbrev eoT : Tk := ⟨0, ⟨#[]⟩, 0⟩
theorem stp_of {k : Tk} {r : List Tk} (h : ∀ w ∈ cont .or, k.is w = false) : stp .or (k :: r) := fun k' r' e w hw => by cases e; exact h w hw
theorem query_back {q : Qy} {i g f w : List Tk} {f0 : Fr} {fs : List Fr} (h : QyT q i g f w f0 fs) {s : ByteArray} (hp : St0 (p0 s) (qyTk i g f w f0 ++ [eoT])) : queryP s = (q, 0) := by
  have hg : stop (g ++ [eoT]) ∧ (g ++ [eoT] ≠ []) ∧ (∀ k r, g ++ [eoT] = k :: r → (k.is bAs = false ∧ k.kd ≠ 1) ∧ (k.kd ≠ 2 ∨ joinOf k.tx = 0) ∧ k.is bWhere = false) := by
    rcases h.grp with ⟨_, rfl⟩ | ⟨t, _, _, rfl⟩
    · exact ⟨⟨stp_of (by decide), fun k r e => by cases e; rfl⟩, by simp, fun k r e => by cases e; exact ⟨⟨rfl, by decide⟩, .inl (by decide), rfl⟩⟩
    · exact ⟨⟨stp_of (by decide), fun k r e => by cases e; rfl⟩, by simp, fun k r e => by cases e; exact ⟨⟨rfl, by decide⟩, .inr (by decide), rfl⟩⟩
  have hw : Aft (w ++ (g ++ [eoT])) := by
    rcases h.whr with ⟨_, rfl⟩ | ⟨t, d, _, _, rfl⟩
    · exact ⟨hg.2.1, hg.1.1, fun k r e => (hg.2.2 k r e).1, fun k r e => (hg.2.2 k r e).2.1⟩
    · exact ⟨by simp, stp_of (by decide), fun k r e => by cases e; exact ⟨rfl, by decide⟩, fun k r e => by cases e; exact .inr (by decide)⟩
  have p1 : St0 (p0 s) (wordT bSel :: (i ++ (wordT bFrom :: (nameT f0.table :: (asT f0.as_ ++ (f ++ (w ++ (g ++ [eoT])))))))) := by
    have := hp
    unfold qyTk at this
    simpa using this
  have eS := p1.must (w := bSel) rfl
  have eI : qyI s = (q.items, (p0 s).step.adv i.length) := by
    unfold qyI
    rw [eS]
    have := lst_back (P := PtI) (most := 16) (part := itemM) (fun a b c => item_back a b c) h.items 1001 (p0 s).step [] _ p1.step ⟨stp_of (by decide), fun k r e => by cases e; rfl⟩ (by simpa using h.il) (by have := h.il; omega)
    simpa using this
  have p2 := p1.step.adv
  have eB := p2.must (w := bFrom) rfl
  have p3 := p2.step
  have hh := fs_head h.fs hw
  have eT : tableM 0 ((p0 s).step.adv i.length).step = (f0, ((p0 s).step.adv i.length).step.adv ((asT f0.as_).length + 1)) := by
    rw [table_back h.as_ p3 hh.2.2 hh.1]
    congr 1
    have h1 := h.j0
    have h2 := h.on0
    cases f0
    simp only at h1 h2
    rw [h1, h2]
  have p4 : St0 (((p0 s).step.adv i.length).step.adv ((asT f0.as_).length + 1)) (f ++ (w ++ (g ++ [eoT]))) := by
    have := p3.step.adv
    rwa [step_advs] at this
  have eF : qyF s = (f0 :: fs, (((p0 s).step.adv i.length).step.adv ((asT f0.as_).length + 1)).adv f.length) := by
    unfold qyF frmM
    rw [eI]
    simp only
    rw [eB, eT]
    simp only
    have := frm_back h.fs 1001 _ [f0] _ p4 hw (fun _ => by have := h.fl; simp; omega) (by have := h.fl; omega)
    simpa using this
  have p5 := p4.adv
  generalize (((p0 s).step.adv i.length).step.adv ((asT f0.as_).length + 1)).adv f.length = r5 at p5 eF
  obtain ⟨r6, eW, p6⟩ : ∃ r6, qyW r5 = (q.whr, r6) ∧ St0 r6 (g ++ [eoT]) := by
    rcases h.whr with ⟨h1, h2⟩ | ⟨t, d, h1, h2, h3⟩
    · subst h2
      have p5 : St0 r5 (g ++ [eoT]) := p5
      obtain ⟨s1, s2⟩ := p5.skip (w := bWhere) (fun k r e => (hg.2.2 k r e).2.2)
      exact ⟨r5, by rw [qyW_f s1, s2, h1], p5⟩
    · subst h3
      have p5 : St0 r5 (wordT bWhere :: (t ++ (g ++ [eoT]))) := p5
      refine ⟨_, ?_, p5.step.adv⟩
      rw [qyW_t (by rw [p5.is]; rfl), p5.take rfl, or_back h1 h2 p5.step hg.1.1]
  obtain ⟨r7, eG, p7⟩ : ∃ r7, qyG r6 = (q.group, r7) ∧ St0 r7 [eoT] := by
    rcases h.grp with ⟨h1, h2⟩ | ⟨t, h1, h2, h3⟩
    · subst h2
      have p6 : St0 r6 [eoT] := p6
      obtain ⟨s1, s2⟩ := p6.skip (w := bGroup) (fun k r e => by cases e; rfl)
      exact ⟨r6, by rw [qyG_f s1, s2, h1], p6⟩
    · subst h3
      have p6 : St0 r6 (wordT bGroup :: wordT bBy :: (t ++ [eoT])) := p6
      refine ⟨_, ?_, p6.step.step.adv⟩
      rw [qyG_t (by rw [p6.is]; rfl), p6.take rfl, p6.step.must rfl]
      have := lst_back (P := PtC) (most := 8) (part := Pst.col) (fun a b c => col_back a b c) h1 1001 r6.step.step [] _ p6.step.step ⟨stp_of (by decide), fun k r e => by cases e; rfl⟩ (by simpa using h2) (by omega)
      rw [this]
      simp
  have hfin : r7.fin.e = 0 := by
    unfold Pst.fin
    rw [if_neg (by rw [p7.kind.1]; simp)]
    exact p7.e
  have eW' : qyW (qyF s).2 = (q.whr, r6) := by rw [eF]; exact eW
  rw [queryP_of eW' eG, if_pos hfin, eF, eI]
  have := h.frm
  cases q
  simp only at this ⊢
  rw [this]

end Go.Par

namespace Go.Par
open Go Go.Am Go.Proofs Go.RowKit
set_option linter.unusedVariables false
set_option linter.unusedSimpArgs false

/-! A query's text is cut into its tokens -/
def sp0 (l : List UInt8) : Prop := l = [] ∨ ∃ r, l = 32 :: r
theorem sp0.sep {l : List UInt8} (h : sp0 l) : sepH l := by
  rcases h with rfl | ⟨r, rfl⟩
  · exact sepH_nil
  · exact sepH_cons (by decide)
theorem sp0.app {l l' : List UInt8} (h : sp0 l) (h' : sp0 l') : sp0 (l ++ l') := by
  rcases h with rfl | ⟨r, rfl⟩
  · exact h'
  · exact .inr ⟨_, rfl⟩
theorem pr_count : (exOf 17 []).pr = ⟨#[99, 111, 117, 110, 116, 40, 42, 41]⟩ := by rw [Ex.pr_eq]; rfl
theorem pr_agg {op : Int} (h1 : 18 ≤ op) (h2 : op ≤ 21) (x : Ex) : (exOf op [x]).pr = opM op ++ ⟨#[40]⟩ ++ x.pr ++ ⟨#[41]⟩ := by
  rw [Ex.pr_eq]
  show prOp op bs0 bs0 Val.null x _ x.pr _ = _
  unfold prOp
  rw [if_neg (by omega), if_neg (by omega), if_neg (by omega), if_neg (by omega), if_neg (by omega), if_neg (by omega), if_pos ⟨h1, h2⟩]
theorem agg_word {op : Int} (h1 : 18 ≤ op) (h2 : op ≤ 21) : isWord (opM op) = true ∧ (opM op).size ≤ 5 := by
  obtain ⟨n, rfl⟩ : ∃ n : Nat, op = n := ⟨op.toNat, by omega⟩
  have h1 : 18 ≤ n := by omega
  have : n ≤ 21 := by omega
  match n, h1, this with
  | 18, _, _ | 19, _, _ | 20, _, _ | 21, _, _ => exact ⟨by decide, by decide⟩
theorem i_wr {x : Ex} {t : List Tk} (h : PtI x t) : Wr x.pr.data.toList t ∧ (∃ k r, t = k :: r) ∧ ∀ k ∈ t, k.kd ≠ 0 := by
  cases h with
  | ex h hd =>
    refine ⟨pt_wr h, ?_, pt_kd h⟩
    cases t with
    | nil => exact absurd rfl (pt_head h).1
    | cons k r => exact ⟨k, r, rfl⟩
  | count =>
    refine ⟨?_, ⟨_, _, rfl⟩, fun k hk => ?_⟩
    · rw [pr_count]
      refine Wr.word (k := wordT bCount) (l := openT.bytes ++ (starT.bytes ++ closeT.bytes)) (.word (by decide)) (.inr (sepH_cons (by decide))) ?_
      refine Wr.word (k := openT) (.sign (sg_mem (by decide))) (.inl ⟨rfl, .inl rfl⟩) ?_
      exact Wr.word (k := starT) (.sign (sg_mem (by decide))) (.inl ⟨rfl, .inr (.inr (.inr (.inr rfl)))⟩) (Wr.one (.sign (sg_mem (by decide))))
    · simp only [List.mem_cons, List.not_mem_nil, or_false] at hk
      rcases hk with rfl | rfl | rfl | rfl <;> decide
  | @agg op x t d h1 h2 h hd =>
    refine ⟨?_, ⟨_, _, rfl⟩, fun k hk => ?_⟩
    · rw [pr_agg h1 h2, l_app, l_app, l_app]
      simp only [List.append_assoc]
      refine Wr.word (k := wordT (opM op)) (.word (agg_word h1 h2).1) (.inr (sepH_cons (by decide))) ?_
      refine Wr.word (k := openT) (.sign (sg_mem (by decide))) (.inl ⟨rfl, .inl rfl⟩) ?_
      exact (pt_wr h).app (Wr.one (k := closeT) (.sign (sg_mem (by decide)))) (sepH_cons (by decide))
    · simp only [List.mem_cons, List.mem_append, List.not_mem_nil, or_false] at hk
      rcases hk with rfl | rfl | hk | rfl
      · show (2 : Int) ≠ 0; decide
      · decide
      · exact pt_kd h k hk
      · decide
theorem c_pt {x : Ex} {t : List Tk} (h : PtC x t) : PtI x t := by
  cases h with
  | col0 h => exact .ex (.col0 h) (by decide)
  | col ht h => exact .ex (.col ht h) (by decide)
theorem lst_mono {P Q : Ex → List Tk → Prop} (h : ∀ x t, P x t → Q x t) {xs : List Ex} {t : List Tk} (hl : LsT P xs t) : LsT Q xs t := by
  induction hl with
  | one hx => exact .one (h _ _ hx)
  | cons hx _ ih => exact .cons (h _ _ hx) ih
theorem joinM_cons (x y : ByteArray) (l : List ByteArray) (sep : ByteArray) : joinM (x :: y :: l) sep = x ++ (sep ++ joinM (y :: l) sep) := by
  apply ByteArray.ext
  simp [joinM, Lib.join_cons, Lib.joinTail, ByteArray.data_append]
theorem lst_wr {xs : List Ex} {t : List Tk} (h : LsT PtI xs t) : Wr (listM xs).data.toList t ∧ (∃ k r, t = k :: r) ∧ ∀ k ∈ t, k.kd ≠ 0 := by
  induction h with
  | one h =>
    have := i_wr h
    unfold listM
    rw [mpc, mpn, joinM_one]
    exact this
  | cons h hr ih =>
    rename_i x t u l
    obtain ⟨a1, ⟨k, r, a2⟩, a3⟩ := i_wr h
    obtain ⟨y, l', rfl⟩ : ∃ y l', l = y :: l' := by
      cases hr with
      | one h => exact ⟨_, _, rfl⟩
      | cons h hr => exact ⟨_, _, rfl⟩
    refine ⟨?_, ⟨k, _, by rw [a2]; rfl⟩, fun k hk => ?_⟩
    · unfold listM
      rw [mpc, mpc, joinM_cons, l_app, l_app]
      refine a1.app ?_ (sepH_cons (by decide))
      refine Wr.word (k := commaT) (.sign (sg_mem (by decide))) (.inl ⟨rfl, .inr (.inr (.inr (.inl rfl)))⟩) ?_
      have := wr_sp ih.1 ih.2.1
      unfold listM at this
      rw [mpc] at this
      exact this
    · rcases List.mem_append.1 hk with hk | hk
      · exact a3 k hk
      · rcases List.mem_cons.1 hk with rfl | hk
        · decide
        · exact ih.2.2 k hk
def asB (a : ByteArray) : ByteArray := if a = ⟨#[]⟩ then ⟨#[]⟩ else ⟨#[32]⟩ ++ a
theorem as_wr {a : ByteArray} (h : asOk a) : Wr (asB a).data.toList (asT a) ∧ sp0 (asB a).data.toList ∧ ∀ k ∈ asT a, k.kd ≠ 0 := by
  unfold asB asT
  rcases h with rfl | h
  · exact ⟨.nil, .inl rfl, fun k hk => by simp at hk⟩
  · rw [if_neg (name_ne h), if_neg (name_ne h), l_app]
    exact ⟨(Wr.one (.name h)).sp, .inr ⟨_, rfl⟩, fun k hk => by rw [List.mem_singleton.1 hk]; show (1 : Int) ≠ 0; decide⟩
theorem jn_wr {j : Int} (h1 : 1 ≤ j) (h4 : j ≤ 4) (i : Nat) : ∃ b : List UInt8, (joinW j i).data.toList = 32 :: b ∧ (∀ l t, Wr l t → (∃ k r, t = k :: r) → Wr (b ++ l) (jnT j ++ t)) ∧ ∀ k ∈ jnT j, k.kd ≠ 0 := by
  obtain ⟨n, rfl⟩ : ∃ n : Nat, j = n := ⟨j.toNat, by omega⟩
  have h1 : 1 ≤ n := by omega
  have : n ≤ 4 := by omega
  have two : ∀ (w : ByteArray), isWord w = true → ∀ l t, Wr l t → (∃ k r, t = k :: r) → Wr (w.data.toList ++ (32 :: (bJoin.data.toList ++ (32 :: l)))) (wordT w :: wordT bJoin :: t) := fun w hw l t h hn =>
    Wr.word (k := wordT w) (.word hw) (.inr (sepH_cons (by decide))) ((Wr.word (k := wordT bJoin) (l := 32 :: l) (.word (by decide)) (.inr (sepH_cons (by decide))) (wr_sp h hn)).sp)
  match n, h1, this with
  | 1, _, _ =>
    refine ⟨bJoin.data.toList ++ [32], rfl, fun l t h hn => ?_, fun k hk => by rw [List.mem_singleton.1 hk]; decide⟩
    exact Wr.word (k := wordT bJoin) (l := 32 :: l) (.word (by decide)) (.inr (sepH_cons (by decide))) (wr_sp h hn)
  | 2, _, _ => exact ⟨_, rfl, fun l t h hn => two ⟨#[108, 101, 102, 116]⟩ (by decide) l t h hn, by decide⟩
  | 3, _, _ => exact ⟨_, rfl, fun l t h hn => two ⟨#[115, 101, 109, 105]⟩ (by decide) l t h hn, by decide⟩
  | 4, _, _ => exact ⟨_, rfl, fun l t h hn => two ⟨#[97, 110, 116, 105]⟩ (by decide) l t h hn, by decide⟩
theorem fr_wr {f : Fr} {t : List Tk} {d : Nat} (h : FrOk f t d) {i : Nat} (hi : 0 < i) : Wr (fromM f i).data.toList (jnT f.join ++ nameT f.table :: (asT f.as_ ++ wordT bOn :: t)) ∧ sp0 (fromM f i).data.toList ∧ ∀ k ∈ jnT f.join ++ nameT f.table :: (asT f.as_ ++ wordT bOn :: t), k.kd ≠ 0 := by
  obtain ⟨b, b1, b2, b3⟩ := jn_wr h.j1 h.j4 i
  obtain ⟨a1, a2, a3⟩ := as_wr h.as_
  have e : (fromM f i).data.toList = 32 :: (b ++ (f.table.data.toList ++ ((asB f.as_).data.toList ++ (32 :: (bOn.data.toList ++ 32 :: f.on.pr.data.toList))))) := by
    unfold fromM
    rw [if_pos hi, l_app, l_app, l_app, l_app, b1]
    simp only [cap, List.append_assoc]
    rfl
  have hon : ∃ k r, t = k :: r := by
    cases t with
    | nil => exact absurd rfl (pt_head h.on).1
    | cons k r => exact ⟨k, r, rfl⟩
  have w1 : Wr (32 :: (bOn.data.toList ++ 32 :: f.on.pr.data.toList)) (wordT bOn :: t) := Wr.sp (Wr.word (k := wordT bOn) (.word (by decide)) (.inr (sepH_cons (by decide))) (wr_sp (pt_wr h.on) hon))
  have w2 := a1.app w1 (sepH_cons (by decide))
  have w3 := Wr.word (k := nameT f.table) (.name h.nm) (.inr (a2.app (.inr ⟨_, rfl⟩)).sep) w2
  have w4 := b2 _ _ w3 ⟨_, _, rfl⟩
  refine ⟨?_, by rw [e]; exact .inr ⟨_, rfl⟩, fun k hk => ?_⟩
  · rw [e]
    refine wr_sp w4 ?_
    obtain ⟨k, r, e, _⟩ := jn_of h.j1 h.j4
    exact ⟨k, r ++ (nameT f.table :: (asT f.as_ ++ wordT bOn :: t)), by rw [e]; rfl⟩
  · simp only [List.mem_append, List.mem_cons] at hk
    rcases hk with hk | rfl | hk | rfl | hk
    · exact b3 k hk
    · show (1 : Int) ≠ 0; decide
    · exact a3 k hk
    · decide
    · exact pt_kd h.on k hk
def catM : List Fr → Nat → ByteArray
  | [], _ => ⟨#[]⟩
  | f :: l, i => fromM f i ++ catM l (i + 1)
theorem cat_snoc (f : Fr) : ∀ (l : List Fr) (i : Nat), catM (l ++ [f]) i = catM l i ++ fromM f (i + l.length)
  | [], i => by simp only [nap, catM, lnn, adz]; rw [bnil, bnil0]
  | g :: l, i => by
    rw [cap, catM, catM, cat_snoc f l (i + 1), bapp]
    simp only [lnc]
    rw [show i + 1 + l.length = i + (l.length + 1) by omega]
theorem froms_cat (l : List Fr) : ∀ k, k ≤ l.length → fromsM l k = catM (l.take k) 0
  | 0, _ => by simp [fromsM, catM]
  | k + 1, h => by
    rw [fromsM, froms_cat l k (by omega), List.take_add_one, List.getElem?_eq_getElem (by omega : k < l.length)]
    simp only [Option.toList_some]
    rw [cat_snoc, List.length_take, Nat.min_eq_left (by omega), zad]
    congr 2
    simp [List.getD_eq_getElem?_getD, show k < l.length by omega]
theorem cat_wr {fs : List Fr} {t : List Tk} (h : FsT fs t) : ∀ i, 0 < i → Wr (catM fs i).data.toList t ∧ sp0 (catM fs i).data.toList ∧ ∀ k ∈ t, k.kd ≠ 0 := by
  induction h with
  | nil => exact fun i _ => ⟨.nil, .inl rfl, fun k hk => by simp at hk⟩
  | cons h hr ih =>
    rename_i f t u d l
    intro i hi
    obtain ⟨a1, a2, a3⟩ := fr_wr h hi
    obtain ⟨b1, b2, b3⟩ := ih (i + 1) (by omega)
    rw [catM, l_app]
    have := a1.app b1 b2.sep
    simp only [List.append_assoc, cap] at this
    refine ⟨this, a2.app b2, fun k hk => ?_⟩
    have hk : k ∈ (jnT f.join ++ nameT f.table :: (asT f.as_ ++ wordT bOn :: t)) ++ u := by simpa using hk
    rcases List.mem_append.1 hk with hk | hk
    · exact a3 k hk
    · exact b3 k hk
theorem pt_op {x : Ex} {t : List Tk} {d : Nat} (h : Pt x t d) : x.op ≠ 0 := by
  cases h <;> simp [Ex.op]
  omega
theorem query_wr {q : Qy} {i g f w : List Tk} {f0 : Fr} {fs : List Fr} (h : QyT q i g f w f0 fs) : Wr (queryM q).data.toList (qyTk i g f w f0) ∧ ∀ k ∈ qyTk i g f w f0, k.kd ≠ 0 := by
  have hi := lst_wr h.items
  have hf := cat_wr h.fs 1 (by decide)
  have ha := as_wr h.as_
  have hw : Wr (if q.whr.op ≠ 0 then whereW ++ q.whr.pr else ⟨#[]⟩ : ByteArray).data.toList w ∧ sp0 (if q.whr.op ≠ 0 then whereW ++ q.whr.pr else ⟨#[]⟩ : ByteArray).data.toList ∧ ∀ k ∈ w, k.kd ≠ 0 := by
    rcases h.whr with ⟨h1, rfl⟩ | ⟨t, d, h1, h2, rfl⟩
    · rw [h1, if_neg (by decide)]
      exact ⟨.nil, .inl rfl, fun k hk => by simp at hk⟩
    · rw [if_pos (pt_op h1), l_app]
      refine ⟨?_, .inr ⟨_, rfl⟩, fun k hk => ?_⟩
      · have hne : ∃ k r, t = k :: r := by
          cases t with
          | nil => exact absurd rfl (pt_head h1).1
          | cons k r => exact ⟨k, r, rfl⟩
        exact Wr.sp (Wr.word (k := wordT bWhere) (.word (by decide)) (.inr (sepH_cons (by decide))) (wr_sp (pt_wr h1) hne))
      · rcases List.mem_cons.1 hk with rfl | hk
        · decide
        · exact pt_kd h1 k hk
  have hg : Wr (if q.group = [] then ⟨#[]⟩ else groupW ++ listM q.group : ByteArray).data.toList g ∧ sp0 (if q.group = [] then ⟨#[]⟩ else groupW ++ listM q.group : ByteArray).data.toList ∧ ∀ k ∈ g, k.kd ≠ 0 := by
    rcases h.grp with ⟨h1, rfl⟩ | ⟨t, h1, h2, rfl⟩
    · rw [if_pos h1]
      exact ⟨.nil, .inl rfl, fun k hk => by simp at hk⟩
    · have hne : q.group ≠ [] := by
        intro e
        rw [e] at h1
        cases h1
      obtain ⟨l1, l2, l3⟩ := lst_wr (lst_mono (fun _ _ => c_pt) h1)
      rw [if_neg hne, l_app]
      refine ⟨?_, .inr ⟨_, rfl⟩, fun k hk => ?_⟩
      · exact Wr.sp (Wr.word (k := wordT bGroup) (.word (by decide)) (.inr (sepH_cons (by decide))) (Wr.sp (Wr.word (k := wordT bBy) (.word (by decide)) (.inr (sepH_cons (by decide))) (wr_sp l1 l2))))
      · rcases List.mem_cons.1 hk with rfl | hk
        · decide
        · rcases List.mem_cons.1 hk with rfl | hk
          · decide
          · exact l3 k hk
  have e0 : fromsM q.frm q.frm.length = f0.table ++ (asB f0.as_ ++ catM fs 1) := by
    rw [froms_cat q.frm _ (ler _), List.take_length, h.frm, catM]
    unfold fromM
    rw [h.j0]
    have : joinW 0 0 = ⟨#[]⟩ := rfl
    rw [this, bnil0, if_neg (show ¬ 0 < 0 by decide), bnil, bapp]
    rfl
  have e1 : (queryM q).data.toList = bSel.data.toList ++ (32 :: ((listM q.items).data.toList ++ (32 :: (bFrom.data.toList ++ (32 :: (f0.table.data.toList ++ ((asB f0.as_).data.toList ++ ((catM fs 1).data.toList ++ ((if q.whr.op ≠ 0 then whereW ++ q.whr.pr else ⟨#[]⟩ : ByteArray).data.toList ++ (if q.group = [] then ⟨#[]⟩ else groupW ++ listM q.group : ByteArray).data.toList)))))))))  := by
    unfold queryM headM
    rw [l_app, l_app, l_app, l_app, l_app, e0, l_app, l_app]
    simp only [List.append_assoc]
    rfl
  have w1 := hw.1.app hg.1 hg.2.1.sep
  have s1 := hw.2.1.app hg.2.1
  have w2 := hf.1.app w1 s1.sep
  have s2 := hf.2.1.app s1
  have w3 := ha.1.app w2 s2.sep
  have s3 := ha.2.1.app s2
  have w4 := Wr.word (k := nameT f0.table) (.name h.nm) (.inr s3.sep) w3
  have w5 := Wr.word (k := wordT bFrom) (.word (by decide)) (.inr (sepH_cons (by decide))) w4.sp
  have w6 := hi.1.app w5.sp (sepH_cons (by decide))
  have w7 := Wr.word (k := wordT bSel) (.word (by decide)) (.inr (sepH_cons (by decide))) (wr_sp w6 (by
    obtain ⟨k, r, e⟩ := hi.2.1
    exact ⟨k, _, by rw [e]; rfl⟩))
  refine ⟨by rw [e1]; exact w7, fun k hk => ?_⟩
  unfold qyTk at hk
  simp only [List.mem_append, List.mem_cons] at hk
  rcases hk with rfl | hk | rfl | rfl | hk | hk | hk | hk
  · decide
  · exact hi.2.2 k hk
  · decide
  · show (1 : Int) ≠ 0; decide
  · exact ha.2.2 k hk
  · exact hf.2.2 k hk
  · exact hw.2.2 k hk
  · exact hg.2.2 k hk
/-! Sizes; few parts -/
theorem pt_thin {x : Ex} {t : List Tk} {d : Nat} (h : Pt x t d) : Thin x := by
  induction h with
  | col0 h => exact thin0 rfl
  | col ht h => exact thin0 rfl
  | int h0 h1 => exact thin0 rfl
  | txt h => exact thin0 rfl
  | null => exact thin0 rfl
  | not h ih => exact thin_of (by simp) (fun y hy => by rw [List.mem_singleton.1 hy]; exact ih)
  | isn h ih => exact thin_of (by simp) (fun y hy => by rw [List.mem_singleton.1 hy]; exact ih)
  | nnl h ih => exact thin_of (by simp) (fun y hy => by rw [List.mem_singleton.1 hy]; exact ih)
  | bin h1 h2 hx hy ix iy =>
    refine thin_of (by simp) (fun z hz => ?_)
    simp only [List.mem_cons, List.not_mem_nil, or_false] at hz
    rcases hz with rfl | rfl
    · exact ix
    · exact iy
abbrev Fine (x : Ex) : Prop := PrTree x ∧ x.pr.size ≤ 1000000000 ∧ Thin x
theorem pt_fine {x : Ex} {t : List Tk} {d : Nat} (h : Pt x t d) (hl : t.length ≤ 1000) : Fine x := ⟨pt_prtree h hl, by have := pt_size h; omega, pt_thin h⟩
theorem i_fine {x : Ex} {t : List Tk} (h : PtI x t) (hl : t.length ≤ 1000) : Fine x := by
  cases h with
  | ex h hd => exact pt_fine h hl
  | count => exact ⟨prtree_leaf z63 z63 (by decide) (by decide) z63, by rw [pr_count]; decide, thin0 rfl⟩
  | @agg op x t d h1 h2 h hd =>
    simp only [lnc, List.length_append, lnn] at hl
    obtain ⟨a, b, c⟩ := pt_fine h (by omega)
    refine ⟨prtree_one a b, ?_, thin_of (by simp) (fun y hy => by rw [List.mem_singleton.1 hy]; exact c)⟩
    rw [pr_agg h1 h2]
    simp only [ByteArray.size_append]
    have := pt_size h
    have := (agg_word h1 h2).2
    show _ + 1 + _ + 1 ≤ _
    omega
theorem lst_fine {xs : List Ex} {t : List Tk} (h : LsT PtI xs t) (hl : t.length ≤ 1000) : ∀ x ∈ xs, Fine x := by
  induction h with
  | one h => intro x hx; rw [List.mem_singleton.1 hx]; exact i_fine h hl
  | cons h hr ih =>
    simp only [List.length_append, lnc] at hl
    intro x hx
    rcases List.mem_cons.1 hx with rfl | hx
    · exact i_fine h (by omega)
    · exact ih (by omega) x hx
theorem as_size {a : ByteArray} (h : asOk a) : a.size ≤ 1000000000 := by
  rcases h with rfl | h
  · decide
  · have := h.2.1; omega
theorem fs_fine {fs : List Fr} {t : List Tk} (h : FsT fs t) (hl : t.length ≤ 1000) : ∀ f ∈ fs, Fine f.on ∧ f.table.size ≤ 1000000000 ∧ f.as_.size ≤ 1000000000 := by
  induction h with
  | nil => intro f hf; cases hf
  | cons h hr ih =>
    simp only [List.length_append, lnc] at hl
    intro f hf
    rcases List.mem_cons.1 hf with rfl | hf
    · exact ⟨pt_fine h.on (by omega), by have := h.nm.2.1; omega, as_size h.as_⟩
    · exact ih (by omega) f hf
theorem fine_zero : Fine Ex.zero := ⟨.mk prok_zero (by simp [Ex.l]), by decide, thin0 rfl⟩
structure QFine (q : Qy) : Prop where
  ok : QOk q
  items : ∀ x ∈ q.items, Thin x
  group : ∀ x ∈ q.group, Thin x
  whr : Thin q.whr
  frm : ∀ f ∈ q.frm, Thin f.on
  size : (queryM q).size ≤ 10000000000000
theorem query_fine {q : Qy} {i g f w : List Tk} {f0 : Fr} {fs : List Fr} (h : QyT q i g f w f0 fs) (hl : (qyTk i g f w f0).length + 1 ≤ 1000) : QFine q := by
  unfold qyTk at hl
  simp only [lnc, List.length_append] at hl
  have hi := lst_fine h.items (by omega)
  have hf := fs_fine h.fs (by omega)
  have hg : (∀ x ∈ q.group, Fine x) ∧ q.group.length ≤ 8 := by
    rcases h.grp with ⟨h1, _⟩ | ⟨t, h1, h2, rfl⟩
    · rw [h1]; exact ⟨fun x hx => (by cases hx), by decide⟩
    · exact ⟨lst_fine (lst_mono (fun _ _ => c_pt) h1) (by simp only [lnc] at hl; omega), h2⟩
  have hw : Fine q.whr := by
    rcases h.whr with ⟨h1, _⟩ | ⟨t, d, h1, h2, rfl⟩
    · rw [h1]; exact fine_zero
    · exact pt_fine h1 (by simp only [lnc] at hl; omega)
  have hF : ∀ f ∈ q.frm, Fine f.on ∧ f.table.size ≤ 1000000000 ∧ f.as_.size ≤ 1000000000 := by
    rw [h.frm]
    intro f hm
    rcases List.mem_cons.1 hm with rfl | hm
    · exact ⟨by rw [h.on0]; exact fine_zero, by have := h.nm.2.1; omega, as_size h.as_⟩
    · exact hf f hm
  have ok : QOk q := ⟨fun x hx => (hi x hx).1, fun x hx => (hi x hx).2.1, by have := h.il; omega, fun x hx => (hg.1 x hx).1, fun x hx => (hg.1 x hx).2.1, by have := hg.2; omega,
    fun f hm => ⟨(hF f hm).1.1, (hF f hm).1.2.1, (hF f hm).2.1, (hF f hm).2.2⟩, by rw [h.frm]; have := h.fl; simp only [lnc]; omega, hw.1, hw.2.1⟩
  refine ⟨ok, fun x hx => (hi x hx).2.2, fun x hx => (hg.1 x hx).2.2, hw.2.2, fun f hm => (hF f hm).1.2.2, ?_⟩
  have s1 := headM_size ok (ler q.frm.length)
  have s2 := listM_take q.group.length ok.gl ok.groupS
  rw [List.take_length] at s2
  have s3 := ok.whrS
  have s4 : (if q.whr.op ≠ 0 then whereW ++ q.whr.pr else ⟨#[]⟩ : ByteArray).size ≤ 1000000010 := ite_size (by simp only [ByteArray.size_append, sz7]; omega) (by decide)
  have s5 : (if q.group = [] then ⟨#[]⟩ else groupW ++ listM q.group : ByteArray).size ≤ 2000000000000 := ite_size (by decide) (by simp only [ByteArray.size_append, sz10]; omega)
  unfold queryM
  simp only [ByteArray.size_append]
  omega
/-- A parsed query's text is parsed to the same query. -/
theorem query_again {s : ByteArray} {q : Qy} (h : queryP s = (q, 0)) : queryP (queryM q) = (q, 0) ∧ QFine q := by
  obtain ⟨i, g, f, w, f0, fs, hq, hl⟩ := queryP_out h
  refine ⟨?_, query_fine hq hl⟩
  obtain ⟨hwr, hkd⟩ := query_wr hq
  obtain ⟨ts, j, e1, e2⟩ := all_lex (s := queryM q) hwr 1000 0 [] (by unfold At; simp) (Nat.zero_le _) (by omega) hkd
  have ea : allM (queryM q) = (ts ++ [endT j], 0) := by unfold allM; rw [e1]; simp
  have hp : p0 (queryM q) = ⟨ts ++ [endT j], 0, 0, 0⟩ := by unfold p0; rw [ea]
  refine query_back hq ⟨by rw [hp], by rw [hp], (p0_good _).ok.len, ?_⟩
  rw [hp]
  unfold toks
  simp [e2, Tok.k]

end Go.Par
