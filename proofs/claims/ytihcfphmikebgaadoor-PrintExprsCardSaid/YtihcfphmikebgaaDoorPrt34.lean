import Derived.Test.YtihcfphmikebgaaDoorPrt33
namespace Go.Par
open Go Go.Am Go.Proofs Go.RowKit
set_option linter.unusedVariables false
set_option linter.unusedSimpArgs false

/-! Every printed expression is parsed again -/
theorem par7 {x : Ex} {t : List Tk} (h : levelM x.op = 7) : parT (lvN .atom) x t = t := par_not (by rw [h]; decide)
theorem is_fun {p : Pst} {k : Tk} {r : List Tk} (he : p.e = 0) (h : toks p = k :: r) : p.is = k.is := funext fun s => is_cons he h s
theorem up_col0 {name : ByteArray} : UP (exCol bs0 name) [nameT name] 0 .atom := fun n p rest he ht hs hd hn => by
  obtain ⟨k, rfl⟩ : ∃ k, n = k + 1 := ⟨n - 1, by simp [Lv.rank] at hn; omega⟩
  rw [par7 rfl] at ht ⊢
  obtain ⟨k1, k2, _⟩ := tok_kind he ht
  have h2 := stp_is (p := p.step) he (toks_cons ht) hs (w := dotB) (by simp [cont])
  have hn : p.name = (name, p.step) := by unfold Pst.name; rw [if_pos k1, k2]
  rw [R, if_neg (by rw [k1]; simp), if_neg (by rw [k1]; simp), if_neg (by rw [is_cons he ht, is_name]; decide), if_neg (by rw [is_cons he ht, is_name]; decide)]
  unfold Pst.col
  rw [hn]
  simp only
  rw [if_neg (by rw [h2]; decide)]
  rfl
theorem up_col {tab name : ByteArray} : UP (exCol tab name) [nameT tab, dotT, nameT name] 0 .atom := fun n p rest he ht hs hd hn => by
  obtain ⟨k, rfl⟩ : ∃ k, n = k + 1 := ⟨n - 1, by simp [Lv.rank] at hn; omega⟩
  rw [par7 rfl] at ht ⊢
  obtain ⟨k1, k2, _⟩ := tok_kind he ht
  have t1 := toks_cons ht
  have t2 := toks_cons (p := p.step) t1
  obtain ⟨k3, k4, _⟩ := tok_kind (p := p.step.step) he t2
  have hn : p.name = (tab, p.step) := by unfold Pst.name; rw [if_pos k1, k2]
  have hn2 : p.step.step.name = (name, p.step.step.step) := by unfold Pst.name; rw [if_pos k3, k4]
  rw [R, if_neg (by rw [k1]; simp), if_neg (by rw [k1]; simp), if_neg (by rw [is_cons he ht, is_name]; decide), if_neg (by rw [is_cons he ht, is_name]; decide)]
  unfold Pst.col
  rw [hn]
  simp only
  rw [if_pos (by rw [is_cons (p := p.step) he t1]; rfl), hn2]
  rfl
theorem up_int {m : Int} : UP (exVal ⟨1, m, bs0⟩) [⟨3, itoaM m, m⟩] 0 .atom := fun n p rest he ht hs hd hn => by
  obtain ⟨k, rfl⟩ : ∃ k, n = k + 1 := ⟨n - 1, by simp [Lv.rank] at hn; omega⟩
  rw [par7 rfl] at ht ⊢
  obtain ⟨k1, k2, k3⟩ := tok_kind he ht
  rw [R, if_pos k1, k3]
  rfl
theorem up_txt {s : ByteArray} : UP (exVal ⟨2, 0, s⟩) [⟨4, s, 0⟩] 0 .atom := fun n p rest he ht hs hd hn => by
  obtain ⟨k, rfl⟩ : ∃ k, n = k + 1 := ⟨n - 1, by simp [Lv.rank] at hn; omega⟩
  rw [par7 rfl] at ht ⊢
  obtain ⟨k1, k2, k3⟩ := tok_kind he ht
  rw [R, if_neg (by rw [k1]; simp), if_pos k1, k2]
  rfl
theorem up_null : UP (exVal Val.null) [wordT bNull] 0 .atom := fun n p rest he ht hs hd hn => by
  obtain ⟨k, rfl⟩ : ∃ k, n = k + 1 := ⟨n - 1, by simp [Lv.rank] at hn; omega⟩
  rw [par7 rfl] at ht ⊢
  obtain ⟨k1, k2, k3⟩ := tok_kind he ht
  rw [R, if_neg (by rw [k1]; simp), if_neg (by rw [k1]; simp), if_pos (by rw [is_cons he ht]; rfl)]
  rfl
theorem up_not {x : Ex} {t : List Tk} {d : Nat} (h : G x t d) : UP (exOf 12 [x]) (wordT bNot :: parT 3 x t) (parD 3 x d + 1) .not := fun n p rest he ht hs hd hn => by
  obtain ⟨k, rfl⟩ : ∃ k, n = k + 1 := ⟨n - 1, by simp [Lv.rank] at hn; omega⟩
  have e0 : parT (lvN .not) (exOf 12 [x]) (wordT bNot :: parT 3 x t) = wordT bNot :: parT 3 x t := par_not (show ¬ levelM 12 < 3 by decide)
  have e1 : parD (lvN .not) (exOf 12 [x]) (parD 3 x d + 1) = parD 3 x d + 1 := if_neg (show ¬ levelM 12 < 3 by decide)
  rw [e0] at ht ⊢
  rw [e1] at hd
  rw [cap] at ht
  obtain ⟨q1, q2⟩ := down_take (w := bNot) he ht rfl (by omega)
  generalize hq : ({ p with deep := p.deep + 1, at_ := p.at_ + 1 } : Pst) = q at q1 q2
  have hqe : q.e = 0 := by rw [← hq]; exact he
  have hmz : mz p = mz q + 20 := by rw [mz_of he, mz_of hqe, ht, q2]; simp; omega
  have r1 := h.1 .not k q rest hqe q2 hs (by rw [← hq]; show p.deep + 1 + parD 3 x d ≤ 50; omega) (by simp only [Lv.rank] at hn ⊢; omega)
  rw [R, if_pos (by rw [is_cons he ht]; rfl), q1, r1]
  simp only [Prod.mk.injEq, true_and]
  rw [← hq]
  simp [Pst.up, Pst.adv, lvN]
  omega
theorem stp_is_sum (r : List Tk) : stp .sum (wordT bIs :: r) := fun k r' e w hw => by
  cases e
  have : ∀ w ∈ cont .sum, (wordT bIs).is w = false := by decide
  exact this w hw
theorem is_cmps : cmps.find? (wordT bIs).is = none := by decide
/-- The state behind some tokens. -/
theorem sum_then {x : Ex} {t : List Tk} {d : Nat} (h : G x t d) {k : Nat} {p : Pst} {r : List Tk} (he : p.e = 0) (ht : toks p = parT 5 x t ++ r) (hs : stp .sum r) (hd : p.deep + parD 5 x d ≤ 50) (hn : mz p + 3 ≤ k) :
    R k (.parse .sum) p = (x, p.adv (parT 5 x t).length) ∧ toks (p.adv (parT 5 x t).length) = r := ⟨h.1 .sum k p r he ht hs hd hn, toks_app ht⟩
theorem up_isn {x : Ex} {t : List Tk} {d : Nat} (h : G x t d) : UP (exOf 13 [x]) (parT 5 x t ++ [wordT bIs, wordT bNull]) (parD 5 x d) .test := fun n p rest he ht hs hd hn => by
  obtain ⟨k, rfl⟩ : ∃ k, n = k + 1 := ⟨n - 1, by simp [Lv.rank] at hn; omega⟩
  have e0 : ∀ u, parT (lvN .test) (exOf 13 [x]) u = u := fun u => par_not (show ¬ levelM 13 < 4 by decide)
  have e1 : ∀ u, parD (lvN .test) (exOf 13 [x]) u = u := fun u => if_neg (show ¬ levelM 13 < 4 by decide)
  rw [e0] at ht ⊢
  rw [e1] at hd
  rw [List.append_assoc] at ht
  obtain ⟨r1, r2⟩ := sum_then h (k := k) he ht (stp_is_sum _) hd (by simp only [Lv.rank] at hn ⊢; omega)
  generalize hq : p.adv (parT 5 x t).length = q at r1 r2
  have hqe : q.e = 0 := by rw [← hq]; exact he
  have t1 := toks_cons r2
  have e3 : q.step.is bNot = false := by rw [is_cons (p := q.step) hqe t1]; decide
  rw [R, r1]
  simp only
  rw [is_fun hqe r2, is_cmps]
  simp only
  rw [if_pos (show (wordT bIs).is bIs = true by decide), e3, if_neg (by decide), Pst.take, e3, if_neg (by decide), must_cons (p := q.step) hqe t1 rfl, ← hq]
  simp [Pst.step, Pst.adv, Nat.add_assoc]
theorem up_nnl {x : Ex} {t : List Tk} {d : Nat} (h : G x t d) : UP (exOf 14 [x]) (parT 5 x t ++ [wordT bIs, wordT bNot, wordT bNull]) (parD 5 x d) .test := fun n p rest he ht hs hd hn => by
  obtain ⟨k, rfl⟩ : ∃ k, n = k + 1 := ⟨n - 1, by simp [Lv.rank] at hn; omega⟩
  have e0 : ∀ u, parT (lvN .test) (exOf 14 [x]) u = u := fun u => par_not (show ¬ levelM 14 < 4 by decide)
  have e1 : ∀ u, parD (lvN .test) (exOf 14 [x]) u = u := fun u => if_neg (show ¬ levelM 14 < 4 by decide)
  rw [e0] at ht ⊢
  rw [e1] at hd
  rw [List.append_assoc] at ht
  obtain ⟨r1, r2⟩ := sum_then h (k := k) he ht (stp_is_sum _) hd (by simp only [Lv.rank] at hn ⊢; omega)
  generalize hq : p.adv (parT 5 x t).length = q at r1 r2
  have hqe : q.e = 0 := by rw [← hq]; exact he
  have t1 := toks_cons r2
  have t2 := toks_cons (p := q.step) t1
  have e3 : q.step.is bNot = true := by rw [is_cons (p := q.step) hqe t1]; decide
  rw [R, r1]
  simp only
  rw [is_fun hqe r2, is_cmps]
  simp only
  rw [if_pos (show (wordT bIs).is bIs = true by decide), e3, if_pos rfl, Pst.take, e3, if_pos rfl, must_cons (p := q.step.step) hqe t2 rfl, ← hq]
  simp [Pst.step, Pst.adv, Nat.add_assoc]
/-- What is closed and known of an operator that compares. -/
structure CmpOp (op : Int) : Prop where
  f : cmps.find? (opT op).is = some (opM op)
  o : opOf (opM op) = op
  a : asksM op 0 = 5
  b : asksM op 1 = 5
  l : levelM op = 4
  s : ∀ w ∈ cont .sum, (opT op).is w = false
theorem cmp_op {op : Int} (h1 : 1 ≤ op) (h2 : op ≤ 6) : CmpOp op := by
  have : op = 1 ∨ op = 2 ∨ op = 3 ∨ op = 4 ∨ op = 5 ∨ op = 6 := by omega
  rcases this with rfl | rfl | rfl | rfl | rfl | rfl <;> exact ⟨by decide, by decide, by decide, by decide, by decide, by decide⟩
theorem up_cmp {op : Int} (c : CmpOp op) {x y : Ex} {t u : List Tk} {d e : Nat} (hx : G x t d) (hy : G y u e) : UP (exOf op [x, y]) (parT (asksM op 0) x t ++ opT op :: parT (asksM op 1) y u) (max (parD (asksM op 0) x d) (parD (asksM op 1) y e)) .test := fun n p rest he ht hs hd hn => by
  obtain ⟨k, rfl⟩ : ∃ k, n = k + 1 := ⟨n - 1, by simp [Lv.rank] at hn; omega⟩
  have e0 : ∀ v, parT (lvN .test) (exOf op [x, y]) v = v := fun v => par_not (by show ¬ levelM op < 4; rw [c.l]; decide)
  have e1 : ∀ v, parD (lvN .test) (exOf op [x, y]) v = v := fun v => if_neg (by show ¬ levelM op < 4; rw [c.l]; decide)
  rw [e0] at ht ⊢
  rw [e1] at hd
  rw [c.a, c.b] at ht hd ⊢
  rw [List.append_assoc, cap] at ht
  obtain ⟨r1, r2⟩ := sum_then hx (k := k) he ht (fun k r' e w hw => by cases e; exact c.s w hw) (by omega) (by simp only [Lv.rank] at hn ⊢; omega)
  have hmz := mz_adv he ht
  generalize hq : p.adv (parT 5 x t).length = q at r1 r2 hmz
  have hqe : q.e = 0 := by rw [← hq]; exact he
  have t1 := toks_cons r2
  obtain ⟨r3, r4⟩ := sum_then hy (k := k) (p := q.step) hqe t1 (stp_sub hs (by simp [cont])) (by show q.deep + _ ≤ 50; rw [← hq]; show p.deep + _ ≤ 50; omega) (by
    have : mz q = mz q.step + 20 := by rw [mz_of hqe, mz_of (p := q.step) hqe, r2, t1]; simp; omega
    simp only [Lv.rank] at hn ⊢; omega)
  rw [R, r1]
  simp only
  rw [is_fun hqe r2, c.f]
  simp only
  rw [r3, c.o, ← hq]
  simp [Pst.step, Pst.adv, Nat.add_assoc, Nat.add_comm, Nat.add_left_comm]
/-- What is closed and known of an operator of a chain. -/
structure ChOp (l : Lv) (op : Int) : Prop where
  c : chn l = true
  f : l.signs.find? (opT op).is = some (opM op)
  o : opOf (opM op) = op
  a : asksM op 0 = lvN l
  b : asksM op 1 = lvN l.sub
  lv : levelM op = lvN l
  s : ∀ w ∈ cont l.sub, (opT op).is w = false
theorem vp_bin {l : Lv} {op : Int} (c : ChOp l op) {x y : Ex} {t u : List Tk} {d e : Nat} (hx : G x t d) (hy : G y u e) : VP (exOf op [x, y]) (parT (asksM op 0) x t ++ opT op :: parT (asksM op 1) y u) (max (parD (asksM op 0) x d) (parD (asksM op 1) y e)) l := fun n p rest he ht hs hd hn => by
  have e0 : ∀ v, parT (lvN l) (exOf op [x, y]) v = v := fun v => par_not (by show ¬ levelM op < _; rw [c.lv]; omega)
  have e1 : ∀ v, parD (lvN l) (exOf op [x, y]) v = v := fun v => if_neg (by show ¬ levelM op < _; rw [c.lv]; omega)
  rw [e0] at ht ⊢
  rw [e1] at hd
  rw [c.a, c.b] at ht hd ⊢
  have ht0 := ht
  rw [List.append_assoc, cap] at ht
  obtain ⟨m, hm, r1⟩ := hx.2 l c.c n p _ he ht (fun k r' e w hw => by cases e; exact c.s w hw) (by omega) hn
  have r2 := toks_app ht
  generalize hq : p.adv (parT (lvN l) x t).length = q at hm r1 r2
  have hqe : q.e = 0 := by rw [← hq]; exact he
  have t1 := toks_cons r2
  have hz : mz q = mz q.step + 20 := by rw [mz_of hqe, mz_of (p := q.step) hqe, r2, t1]; simp; omega
  obtain ⟨k, rfl⟩ : ∃ k, m = k + 1 := ⟨m - 1, by omega⟩
  have hr : l.sub.rank ≤ 7 := by cases l <;> decide
  have r3 := hy.1 l.sub k q.step rest hqe t1 hs (by show q.deep + _ ≤ 50; rw [← hq]; show p.deep + _ ≤ 50; omega) (by omega)
  have t4 : (parT (lvN l) x t ++ opT op :: parT (lvN l.sub) y u).length = (parT (lvN l) x t).length + 1 + (parT (lvN l.sub) y u).length := by simp; omega
  have hfin : q.step.adv (parT (lvN l.sub) y u).length = p.adv (parT (lvN l) x t ++ opT op :: parT (lvN l.sub) y u).length := by
    rw [t4, ← hq, step_adv, adv_adv, adv_adv]
    simp only [Nat.add_assoc]
  refine ⟨k, ?_, ?_⟩
  · rw [← hfin]
    have := mz_adv (p := q.step) hqe t1
    omega
  · rw [r1, R, if_pos hqe, is_fun hqe r2, c.f]
    simp only
    rw [r3, c.o, hfin]
theorem G_all {x : Ex} {t : List Tk} {d : Nat} (h : Pt x t d) : G x t d := by
  induction h with
  | col0 h => exact assemble (.col0 h) .atom rfl up_col0 (fun h => by cases h)
  | col ht h => exact assemble (.col ht h) .atom rfl up_col (fun h => by cases h)
  | int h0 h1 => exact assemble (.int h0 h1) .atom rfl up_int (fun h => by cases h)
  | txt h => exact assemble (.txt h) .atom rfl up_txt (fun h => by cases h)
  | null => exact assemble .null .atom rfl up_null (fun h => by cases h)
  | not h ih => exact assemble (.not h) .not (show levelM 12 = 3 by decide) (up_not ih) (fun h => by cases h)
  | isn h ih => exact assemble (.isn h) .test (show levelM 13 = 4 by decide) (up_isn ih) (fun h => by cases h)
  | nnl h ih => exact assemble (.nnl h) .test (show levelM 14 = 4 by decide) (up_nnl ih) (fun h => by cases h)
  | @bin op x y t u d c h1 h2 hx hy ihx ihy =>
    have ch : ∀ l, ChOp l op → G (exOf op [x, y]) (parT (asksM op 0) x t ++ opT op :: parT (asksM op 1) y u) (max (parD (asksM op 0) x d) (parD (asksM op 1) y c)) := fun l co =>
      have hv := vp_bin co ihx ihy
      assemble (.bin h1 h2 hx hy) l co.lv (vp_up co.c hv) (fun _ => hv)
    by_cases h6 : op ≤ 6
    · have co := cmp_op h1 h6
      exact assemble (.bin h1 h2 hx hy) .test co.l (up_cmp co ihx ihy) (fun h => by cases h)
    · have : op = 7 ∨ op = 8 ∨ op = 9 ∨ op = 10 ∨ op = 11 := by omega
      rcases this with rfl | rfl | rfl | rfl | rfl
      · exact ch .sum ⟨by decide, by decide, by decide, by decide, by decide, by decide, by decide⟩
      · exact ch .sum ⟨by decide, by decide, by decide, by decide, by decide, by decide, by decide⟩
      · exact ch .prod ⟨by decide, by decide, by decide, by decide, by decide, by decide, by decide⟩
      · exact ch .and ⟨by decide, by decide, by decide, by decide, by decide, by decide, by decide⟩
      · exact ch .or ⟨by decide, by decide, by decide, by decide, by decide, by decide, by decide⟩

end Go.Par
