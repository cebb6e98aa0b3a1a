import Derived.Test.YtihcfphmikebgaaDoorPrt36
namespace Go.Par
open Go Go.Am Go.Proofs Go.RowKit
set_option linter.unusedVariables false
set_option linter.unusedSimpArgs false

/-! Parsed, printed, parsed again -/
theorem l_app (a b : ByteArray) : (a ++ b).data.toList = a.data.toList ++ b.data.toList := by rw [ByteArray.data_append, Array.toList_append]
theorem sg_mem {w : ByteArray} (h : (signL.any fun v => decide (w = v)) = true) : w ∈ signL := by
  obtain ⟨v, hv, e⟩ := List.any_eq_true.1 h
  rw [dtt] at e
  rw [e]; exact hv
theorem wr_par {lvl : Int} {x : Ex} {t : List Tk} (h : Wr x.pr.data.toList t) : Wr (parM lvl x x.pr).data.toList (parT lvl x t) := by
  unfold parM parT
  split
  · rw [l_app, l_app, List.append_assoc]
    refine Wr.word (k := openT) (.sign (sg_mem (by decide))) (.inl ⟨rfl, .inl rfl⟩) ?_
    exact h.app (Wr.one (k := closeT) (.sign (sg_mem (by decide)))) (sepH_cons (by decide))
  · exact h
theorem opT_ok {op : Int} (h1 : 1 ≤ op) (h2 : op ≤ 11) : TkOk (opT op) ∧ (opT op).bytes = (opM op).data.toList ∧ (opT op).kd ≠ 0 ∧ (opM op).size ≤ 3 := by
  obtain ⟨n, rfl⟩ : ∃ n : Nat, op = n := ⟨op.toNat, by omega⟩
  have h1 : 1 ≤ n := by omega
  have : n ≤ 11 := by omega
  match n, h1, this with
  | 1, _, _ | 2, _, _ | 3, _, _ | 4, _, _ | 5, _, _ | 6, _, _ | 7, _, _ | 8, _, _ | 9, _, _ => exact ⟨.sign (sg_mem (by decide)), rfl, by decide, by decide⟩
  | 10, _, _ | 11, _, _ => exact ⟨.word (by decide), rfl, by decide, by decide⟩
theorem par_ne {lvl : Int} {x : Ex} {t : List Tk} (h : t ≠ []) : ∃ k r, parT lvl x t = k :: r := by
  unfold parT
  split
  · exact ⟨_, _, rfl⟩
  · cases t with
    | nil => exact absurd rfl h
    | cons k r => exact ⟨k, r, rfl⟩
theorem wr_sp {l : List UInt8} {t : List Tk} (h : Wr l t) (hn : ∃ k r, t = k :: r) : Wr (32 :: l) t := by
  obtain ⟨k, r, rfl⟩ := hn
  exact h.sp
theorem par_kd {lvl : Int} {x : Ex} {t : List Tk} (h : ∀ k ∈ t, k.kd ≠ 0) : ∀ k ∈ parT lvl x t, k.kd ≠ 0 := by
  unfold parT
  split
  · intro k hk
    simp only [List.mem_cons, List.mem_append, List.not_mem_nil, or_false] at hk
    rcases hk with rfl | hk | rfl
    · decide
    · exact h k hk
    · decide
  · exact h
theorem pt_kd {x : Ex} {t : List Tk} {d : Nat} (h : Pt x t d) : ∀ k ∈ t, k.kd ≠ 0 := by
  induction h with
  | col0 h => intro k hk; rw [List.mem_singleton.1 hk]; show (1 : Int) ≠ 0; decide
  | col ht h =>
    intro k hk
    simp only [List.mem_cons, List.not_mem_nil, or_false] at hk
    rcases hk with rfl | rfl | rfl <;> simp
  | int h0 h1 => intro k hk; rw [List.mem_singleton.1 hk]; show (3 : Int) ≠ 0; decide
  | txt h => intro k hk; rw [List.mem_singleton.1 hk]; show (4 : Int) ≠ 0; decide
  | null => intro k hk; rw [List.mem_singleton.1 hk]; decide
  | not h ih =>
    intro k hk
    rcases List.mem_cons.1 hk with rfl | hk
    · decide
    · exact par_kd ih k hk
  | isn h ih =>
    intro k hk
    rcases List.mem_append.1 hk with hk | hk
    · exact par_kd ih k hk
    · simp only [List.mem_cons, List.not_mem_nil, or_false] at hk
      rcases hk with rfl | rfl <;> decide
  | nnl h ih =>
    intro k hk
    rcases List.mem_append.1 hk with hk | hk
    · exact par_kd ih k hk
    · simp only [List.mem_cons, List.not_mem_nil, or_false] at hk
      rcases hk with rfl | rfl | rfl <;> decide
  | bin h1 h2 hx hy ix iy =>
    intro k hk
    rcases List.mem_append.1 hk with hk | hk
    · exact par_kd ix k hk
    · rcases List.mem_cons.1 hk with rfl | hk
      · exact (opT_ok h1 h2).2.2.1
      · exact par_kd iy k hk
theorem pr_int (v : Val) : (exVal v).pr = valM v := by rw [Ex.pr_eq]; rfl
theorem pr_not (x : Ex) : (exOf 12 [x]).pr = ⟨#[110, 111, 116, 32]⟩ ++ parM 3 x x.pr := by rw [Ex.pr_eq]; rfl
theorem pr_isn (x : Ex) : (exOf 13 [x]).pr = parM 5 x x.pr ++ ⟨#[32, 105, 115, 32, 110, 117, 108, 108]⟩ := by rw [Ex.pr_eq]; rfl
theorem pr_nnl (x : Ex) : (exOf 14 [x]).pr = parM 5 x x.pr ++ ⟨#[32, 105, 115, 32, 110, 111, 116, 32, 110, 117, 108, 108]⟩ := by rw [Ex.pr_eq]; rfl
theorem pr_bin {op : Int} (h1 : 1 ≤ op) (h2 : op ≤ 11) (x y : Ex) : (exOf op [x, y]).pr = parM (asksM op 0) x x.pr ++ ⟨#[32]⟩ ++ opM op ++ ⟨#[32]⟩ ++ parM (asksM op 1) y y.pr := by
  rw [Ex.pr_eq]
  show prOp op bs0 bs0 Val.null x y x.pr y.pr = _
  unfold prOp
  rw [if_neg (by omega), if_neg (by omega), if_neg (by omega), if_neg (by omega), if_neg (by omega), if_neg (by omega), if_neg (by omega), if_pos ⟨h1, h2⟩]
theorem name_ne {s : ByteArray} (h : nameOk s) : s ≠ ⟨#[]⟩ := fun e => by
  have := h.1
  rw [e] at this
  exact absurd this (by decide)
theorem pr_col {tab name : ByteArray} (h : nameOk tab) : (exCol tab name).pr = tab ++ ⟨#[46]⟩ ++ name := by
  rw [Ex.pr_eq]
  show (if tab = ⟨#[]⟩ then name else tab ++ ⟨#[46]⟩ ++ name) = _
  rw [if_neg (name_ne h)]
theorem pr_col0 (name : ByteArray) : (exCol bs0 name).pr = name := by rw [Ex.pr_eq]; rfl
theorem pt_wr {x : Ex} {t : List Tk} {d : Nat} (h : Pt x t d) : Wr x.pr.data.toList t := by
  induction h with
  | col0 h => rw [pr_col0]; exact Wr.one (.name h)
  | col ht h =>
    rw [pr_col ht, l_app, l_app, List.append_assoc]
    refine Wr.word (.name ht) (.inr (sepH_cons (by decide))) ?_
    exact Wr.word (k := dotT) (.sign (sg_mem (by decide))) (.inl ⟨rfl, .inr (.inr (.inl rfl))⟩) (Wr.one (.name h))
  | int h0 h1 => rw [pr_int]; exact Wr.one (.num h0 h1)
  | txt h =>
    rw [pr_int]
    have := Wr.one (.txt h)
    exact this
  | null => rw [pr_int]; exact Wr.one (.word (by decide))
  | not h ih =>
    rename_i x t d
    rw [pr_not, l_app]
    have hp : Wr (32 :: (parM 3 x x.pr).data.toList) (parT 3 x t) := wr_sp (wr_par ih) (par_ne (pt_head h).1)
    exact Wr.word (k := wordT bNot) (.word (by decide)) (.inr (sepH_cons (by decide))) hp
  | isn h ih =>
    rename_i x t d
    rw [pr_isn, l_app]
    refine (wr_par ih).app (t' := [wordT bIs, wordT bNull]) ?_ (sepH_cons (by decide))
    refine Wr.sp ?_
    refine Wr.word (k := wordT bIs) (l := 32 :: (wordT bNull).bytes) (.word (by decide)) (.inr (sepH_cons (by decide))) ?_
    exact (Wr.one (.word (by decide))).sp
  | nnl h ih =>
    rename_i x t d
    rw [pr_nnl, l_app]
    refine (wr_par ih).app (t' := [wordT bIs, wordT bNot, wordT bNull]) ?_ (sepH_cons (by decide))
    refine Wr.sp ?_
    refine Wr.word (k := wordT bIs) (l := 32 :: ((wordT bNot).bytes ++ 32 :: (wordT bNull).bytes)) (.word (by decide)) (.inr (sepH_cons (by decide))) ?_
    refine Wr.sp ?_
    refine Wr.word (k := wordT bNot) (l := 32 :: (wordT bNull).bytes) (.word (by decide)) (.inr (sepH_cons (by decide))) ?_
    exact (Wr.one (.word (by decide))).sp
  | bin h1 h2 hx hy ix iy =>
    rename_i op x y t u d c
    rw [pr_bin h1 h2, l_app, l_app, l_app, l_app]
    simp only [List.append_assoc]
    obtain ⟨o1, o2, o3, o4⟩ := opT_ok h1 h2
    refine (wr_par ix).app ?_ (sepH_cons (by decide))
    refine Wr.sp ?_
    rw [← o2]
    refine Wr.word o1 (.inr (sepH_cons (by decide))) ?_
    exact wr_sp (wr_par iy) (par_ne (pt_head hy).1)
/-! How long it is -/
theorem quoteL_len : ∀ l : List UInt8, (quoteL l).length ≤ 2 * l.length
  | [] => by simp [quoteL]
  | c :: l => by
    have := quoteL_len l
    by_cases hc : c = 39
    · have e : quoteL (c :: l) = 39 :: 39 :: quoteL l := by subst hc; rfl
      rw [e]; simp only [lnc]; omega
    · have e : quoteL (c :: l) = c :: quoteL l := by simp [quoteL, hc]
      rw [e]; simp only [lnc]; omega
theorem dec_len2 : ∀ (k u : Nat), u < 10 ^ (k + 1) → (Lib.decDigits u).length ≤ k + 1
  | 0, u, h => by rw [Lib.decDigits, dif_pos (by simpa using h)]; exact ler _
  | k + 1, u, h => by
    rw [Lib.decDigits]
    split
    · simp
    · have := dec_len2 k (u / 10) (by rw [Nat.pow_succ] at h; omega)
      simp only [List.length_append, List.length_singleton]
      omega
theorem par_size {lvl : Int} {x : Ex} {t : List Tk} (h : x.pr.size ≤ 140000 * t.length) : (parM lvl x x.pr).size ≤ 140000 * (parT lvl x t).length := by
  unfold parM parT
  split
  · rw [ByteArray.size_append, ByteArray.size_append]
    simp only [lnc, List.length_append, lnn]
    show 1 + x.pr.size + 1 ≤ _
    omega
  · exact h
theorem pt_size {x : Ex} {t : List Tk} {d : Nat} (h : Pt x t d) : x.pr.size ≤ 140000 * t.length := by
  induction h with
  | col0 h => rw [pr_col0]; have := h.2.1; simp only [lnc, lnn]; omega
  | col ht h =>
    rw [pr_col ht, ByteArray.size_append, ByteArray.size_append]
    have a := h.2.1
    have b := ht.2.1
    simp only [lnc, lnn]
    show _ + 1 + _ ≤ _
    omega
  | int h0 h1 =>
    rename_i n
    rw [pr_int]
    obtain ⟨u, rfl⟩ : ∃ u : Nat, n = u := ⟨n.toNat, by omega⟩
    show (itoaM (u : Int)).size ≤ _
    have := dec_len2 19 u (by omega)
    rw [← ba_size]
    unfold itoaM Lib.itoa
    rw [if_neg (by omega)]
    simp only [Int.toNat_natCast, lnc, lnn]
    omega
  | txt h =>
    rename_i s
    rw [pr_int]
    show (quoteM s).size ≤ _
    rw [← ba_size]
    have := quoteL_len s.data.toList
    rw [ba_size] at this
    show (39 :: (quoteL s.data.toList ++ [39])).length ≤ _
    simp only [lnc, List.length_append, lnn]
    omega
  | null => rw [pr_int]; decide
  | not h ih =>
    rw [pr_not, ByteArray.size_append]
    have := par_size (lvl := 3) ih
    simp only [lnc]
    show 4 + _ ≤ _
    omega
  | isn h ih =>
    rw [pr_isn, ByteArray.size_append]
    have := par_size (lvl := 5) ih
    simp only [List.length_append, lnc, lnn]
    show _ + 8 ≤ _
    omega
  | nnl h ih =>
    rw [pr_nnl, ByteArray.size_append]
    have := par_size (lvl := 5) ih
    simp only [List.length_append, lnc, lnn]
    show _ + 12 ≤ _
    omega
  | bin h1 h2 hx hy ix iy =>
    rename_i op x y t u d c
    rw [pr_bin h1 h2]
    simp only [ByteArray.size_append, List.length_append, lnc]
    have a := par_size (lvl := asksM op 0) ix
    have b := par_size (lvl := asksM op 1) iy
    have := (opT_ok h1 h2).2.2.2
    show _ + 1 + _ + 1 + _ ≤ _
    omega
theorem q63 : (⟨#[63]⟩ : ByteArray).size ≤ 1000000000 := by decide
theorem z63 : bs0.size ≤ 1000000000 := by decide
theorem prtree_leaf {op : Int} {tab name : ByteArray} {v : Val} (h1 : tab.size ≤ 1000000000) (h2 : name.size ≤ 1000000000) (h3 : -9223372036854775808 ≤ v.i) (h4 : v.i ≤ 9223372036854775807) (h5 : v.s.size ≤ 1000000000) : PrTree (.mk op tab name 0 0 v []) :=
  .mk ⟨h1, h2, h3, h4, h5, q63, q63, by show (0 : Nat) ≤ _; omega⟩ (fun x hx => by cases hx)
theorem prtree_one {op : Int} {x : Ex} (h : PrTree x) (hx : x.pr.size ≤ 1000000000) : PrTree (exOf op [x]) :=
  .mk ⟨z63, z63, (by show (-9223372036854775808 : Int) ≤ 0; decide), (by show (0 : Int) ≤ 9223372036854775807; decide), z63, hx, q63, by show (1 : Nat) ≤ _; omega⟩ (fun y hy => by rw [List.mem_singleton.1 hy]; exact h)
theorem prtree_two {op : Int} {x y : Ex} (h : PrTree x) (hx : x.pr.size ≤ 1000000000) (h' : PrTree y) (hy : y.pr.size ≤ 1000000000) : PrTree (exOf op [x, y]) :=
  .mk ⟨z63, z63, (by show (-9223372036854775808 : Int) ≤ 0; decide), (by show (0 : Int) ≤ 9223372036854775807; decide), z63, hx, hy, by show (2 : Nat) ≤ _; omega⟩ (fun z hz => by
    simp only [Ex.l, List.mem_cons, List.not_mem_nil, or_false] at hz
    rcases hz with rfl | rfl
    · exact h
    · exact h')
theorem par_len {lvl : Int} {x : Ex} {t : List Tk} : t.length ≤ (parT lvl x t).length := by unfold parT; split <;> simp; omega
theorem pt_prtree {x : Ex} {t : List Tk} {d : Nat} (h : Pt x t d) (hl : t.length ≤ 1000) : PrTree x := by
  induction h with
  | col0 h => exact prtree_leaf (by decide) (by have := h.2.1; omega) (by decide) (by decide) (by decide)
  | col ht h => exact prtree_leaf (by have := ht.2.1; omega) (by have := h.2.1; omega) (by decide) (by decide) (by decide)
  | int h0 h1 => exact prtree_leaf (by decide) (by decide) (by simp only; omega) h1 z63
  | txt h => exact prtree_leaf z63 z63 (by show (-9223372036854775808 : Int) ≤ 0; decide) (by show (0 : Int) ≤ 9223372036854775807; decide) (by simp only; omega)
  | null => exact prtree_leaf (by decide) (by decide) (by decide) (by decide) (by decide)
  | not h ih =>
    rename_i x t d
    have := par_len (lvl := 3) (x := x) (t := t)
    have := pt_size h
    simp only [lnc] at hl
    exact prtree_one (ih (by omega)) (by omega)
  | isn h ih =>
    rename_i x t d
    have := par_len (lvl := 5) (x := x) (t := t)
    have := pt_size h
    simp only [List.length_append, lnc] at hl
    exact prtree_one (ih (by omega)) (by omega)
  | nnl h ih =>
    rename_i x t d
    have := par_len (lvl := 5) (x := x) (t := t)
    have := pt_size h
    simp only [List.length_append, lnc] at hl
    exact prtree_one (ih (by omega)) (by omega)
  | bin h1 h2 hx hy ix iy =>
    rename_i op x y t u d c
    have := par_len (lvl := asksM op 0) (x := x) (t := t)
    have := par_len (lvl := asksM op 1) (x := y) (t := u)
    have := pt_size hx
    have := pt_size hy
    simp only [List.length_append, lnc] at hl
    exact prtree_two (ix (by omega)) (by omega) (iy (by omega)) (by omega)
/-! Never past the end -/
def Nl (p : Pst) : Prop := p.at_ < p.l.length ∧ (p.l.getD (p.l.length - 1) Tok.zero).kind = 0
theorem nl_fail {p : Pst} (h : Nl p) (e : Int) : Nl (p.fail e) := by
  unfold Pst.fail
  split
  · exact h
  · exact h
theorem nl_step {p : Pst} (h : Nl p) (hk : p.tok.kind ≠ 0) : Nl p.step := by
  refine ⟨?_, h.2⟩
  show p.at_ + 1 < p.l.length
  have h1 := h.1
  by_cases hh : p.at_ + 1 < p.l.length
  · exact hh
  · exfalso
    apply hk
    unfold Pst.tok
    split
    · have := h.2
      rwa [show p.l.length - 1 = p.at_ by omega] at this
    · rfl
theorem is_kd {p : Pst} {w : ByteArray} (h : p.is w = true) : p.tok.kind ≠ 0 := by
  simp only [Pst.is, Bool.and_eq_true, Bool.or_eq_true, bqi] at h
  rcases h.1.2 with h | h <;> rw [h] <;> decide
theorem nl_take {p : Pst} (h : Nl p) (w : ByteArray) : Nl (p.take w) := by
  unfold Pst.take
  split
  · exact nl_step h (is_kd (by assumption))
  · exact h
theorem nl_must {p : Pst} (h : Nl p) (w : ByteArray) : Nl (p.must w) := by
  unfold Pst.must
  split
  · exact nl_step h (is_kd (by assumption))
  · exact nl_fail h _
theorem nl_down {p : Pst} (h : Nl p) : Nl p.down := by
  unfold Pst.down
  simp only
  split
  · exact nl_fail (p := { p with deep := p.deep + 1 }) h _
  · exact h
theorem nl_name {p : Pst} (h : Nl p) : Nl p.name.2 := by
  unfold Pst.name
  split
  · exact nl_step h (by rename_i hh; rw [hh]; decide)
  · exact nl_fail h _
theorem nl_col {p : Pst} (h : Nl p) : Nl p.col.2 := by
  unfold Pst.col
  split
  · exact nl_name (nl_step (nl_name h) (is_kd (by assumption)))
  · exact nl_name h
theorem R_nl : ∀ (n : Nat) (job : Job) (p : Pst), Nl p → Nl (R n job p).2
  | 0, job, p, h => nl_fail h 1
  | n + 1, .loop l e, p, h => by
    rw [R]
    split
    · exact h
    · rename_i s hs
      split at hs
      · have hi := List.find?_some hs
        exact R_nl n _ _ (R_nl n _ _ (nl_step h (is_kd hi)))
      · cases hs
  | n + 1, .parse .not, p, h => by
    rw [R]
    split
    · exact R_nl n (.parse .not) _ (nl_take (nl_down h) bNot)
    · exact R_nl n _ _ h
  | n + 1, .parse .test, p, h => by
    rw [R]
    have h1 := R_nl n (.parse .sum) p h
    split
    · rename_i s hs
      exact R_nl n _ _ (nl_step h1 (is_kd (List.find?_some hs)))
    · split
      · exact nl_must (nl_take (nl_step h1 (is_kd (by assumption))) bNot) bNull
      · exact h1
  | n + 1, .parse .atom, p, h => by
    rw [R]
    split
    · exact nl_step h (by rename_i hh; rw [hh]; decide)
    · split
      · exact nl_step h (by rename_i hh; rw [hh]; decide)
      · split
        · exact nl_step h (is_kd (by assumption))
        · split
          · exact nl_must (R_nl n (.parse .or) _ (nl_take (nl_down h) bOpen)) bClose
          · exact nl_col h
  | n + 1, .parse .or, p, h => R_nl n _ _ (R_nl n _ _ h)
  | n + 1, .parse .and, p, h => R_nl n _ _ (R_nl n _ _ h)
  | n + 1, .parse .sum, p, h => R_nl n _ _ (R_nl n _ _ h)
  | n + 1, .parse .prod, p, h => R_nl n _ _ (R_nl n _ _ h)
/-! The tokens of a text -/
theorem errFix_tok {a : Nat} {r : Tok × Nat × Int} (h : VTok r.1) : VTok (errFix a r).1 := by
  unfold errFix
  split
  · exact ⟨fun e => by simp [Tok.zero] at e, fun e => by simp [Tok.zero] at e, fun e => by simp [Tok.zero] at e, fun e => by simp [Tok.zero] at e⟩
  · exact h
theorem vzero : VTok Tok.zero := ⟨fun e => by simp [Tok.zero] at e, fun e => by simp [Tok.zero] at e, fun e => by simp [Tok.zero] at e, fun e => by simp [Tok.zero] at e⟩
theorem one_vt {s : ByteArray} {a : Nat} (ha : a ≤ s.size) : VTok (oneM s a).1 := by
  have hr := runOf_le (p := isBlank) ha
  unfold oneM
  generalize runOf isBlank s a = i at hr ⊢
  split
  · exact ⟨fun e => by simp at e, fun e => by simp at e, fun e => by simp at e, fun e => by simp at e⟩
  · rename_i hne
    have hlt : i < s.size := by omega
    split
    · rename_i hl
      refine errFix_tok ?_
      unfold nameM
      split
      · exact vzero
      · rename_i h32
        have hk := runOf_le (p := nmc) hr
        have hge : i + 1 ≤ runOf nmc s i := by
          rw [runOf_go hlt (by unfold nmc; rw [hl]; rfl)]
          exact runOf_ge
        have hsz : (s.extract i (runOf nmc s i)).size = runOf nmc s i - i := by rw [ByteArray.size_extract, Nat.min_eq_left hk]
        refine ⟨fun e => ?_, fun e => ?_, fun e => ?_, fun e => ?_⟩
        · refine ⟨by show 0 < (s.extract i (runOf nmc s i)).size; omega, by show (s.extract i (runOf nmc s i)).size ≤ 32; omega, ?_, fun j hj => ?_, ?_⟩
          · show isLetter (bAt (s.extract i (runOf nmc s i)) 0).toNat = true
            rw [bAt_extract hk (by omega)]; exact hl
          · show nmc (bAt (s.extract i (runOf nmc s i)) j).toNat = true
            have hj : j < (s.extract i (runOf nmc s i)).size := hj
            rw [bAt_extract hk (by omega)]
            exact runOf_all (i := i) (by omega) (by omega)
          · show isWord (s.extract i (runOf nmc s i)) = false
            cases hw : isWord (s.extract i (runOf nmc s i)) with
            | false => rfl
            | true => simp [hw] at e
        · simp only at e; split at e <;> cases e
        · simp only at e; split at e <;> cases e
        · simp only at e; split at e <;> cases e
    · split
      · rename_i hd
        refine errFix_tok ?_
        unfold numberM
        split
        · exact vzero
        · rename_i n hn
          split
          · exact vzero
          · have hb := numAt_le (s := s) (i := i) (fun j a b => runOf_all (p := isDigit) (i := i) a (by have := runOf_ge (p := isDigit) (s := s) (i := i); omega)) (by decide) (by decide) hn
            exact ⟨fun e => by simp at e, fun _ => hb.1, fun _ => hb.2, fun e => by simp at e⟩
      · split
        · refine errFix_tok ?_
          unfold textM
          split
          · exact vzero
          · split
            · exact vzero
            · exact ⟨fun e => by simp at e, fun e => by simp at e, fun e => by simp at e, fun _ => by rename_i hh; simp only; omega⟩
        · split
          · exact vzero
          · exact ⟨fun e => by simp at e, fun e => by simp at e, fun e => by simp at e, fun e => by simp at e⟩
theorem all_vt {s : ByteArray} : ∀ (n a : Nat) (acc : List Tok), a ≤ s.size → (∀ t ∈ acc, VTok t) → ∀ t ∈ (allL s n a acc).1, VTok t
  | 0, a, acc, ha, h => fun t ht => by simp [allL] at ht
  | n + 1, a, acc, ha, h => by
    have h' : ∀ t ∈ acc ++ [(oneM s a).1], VTok t := fun t ht => by
      rcases List.mem_append.1 ht with ht | ht
      · exact h t ht
      · rw [List.mem_singleton.1 ht]; exact one_vt ha
    rw [allL]
    split
    · intro t ht; cases ht
    · split
      · exact h'
      · exact all_vt n _ _ (oneM_le ha) h'
theorem all_end {s : ByteArray} : ∀ (n a : Nat) (acc : List Tok), (allL s n a acc).2 = 0 → 0 < (allL s n a acc).1.length ∧ ((allL s n a acc).1.getD ((allL s n a acc).1.length - 1) Tok.zero).kind = 0
  | 0, a, acc, h => by simp [allL] at h
  | n + 1, a, acc, h => by
    rw [allL] at h ⊢
    split
    · rename_i he; rw [if_pos he] at h; exact absurd h he
    · rename_i he
      rw [if_neg he] at h
      split
      · rename_i hk
        refine ⟨by simp, ?_⟩
        simpa [List.getD_eq_getElem?_getD] using hk
      · rename_i hk
        rw [if_neg hk] at h
        exact all_end n _ _ h
theorem fin_e {p : Pst} (h : p.fin.e = 0) : p.e = 0 ∧ p.tok.kind = 0 := by
  unfold Pst.fin at h
  split at h
  · rename_i hh
    unfold Pst.fail at h
    rw [if_pos hh.1] at h
    simp at h
  · rename_i hh
    exact ⟨h, Classical.byContradiction fun hk => hh ⟨h, hk⟩⟩
theorem R_err : ∀ (n : Nat) (p : Pst), Good p → p.e ≠ 0 → (R n (.parse .or) p).2.e ≠ 0 := fun n p hg he h => he (keeps_e (R_keeps n (.parse .or) p hg).1 h)
/-- What a text's parse can be printed as. -/
theorem expr_pt {n : Nat} {s : ByteArray} {x : Ex} (h : exprM n s = (x, 0)) : ∃ t d, Pt x t d ∧ t.length + 1 ≤ 1000 ∧ parD 1 x d ≤ 50 := by
  unfold exprM at h
  split at h
  · rename_i hf
    obtain ⟨h1, h2⟩ := fin_e hf
    have hx : (R n (.parse .or) (p0 s)).1 = x := (Prod.mk.inj h).1
    have hg := p0_good s
    have hk := (R_keeps n (.parse .or) (p0 s) hg).1
    have e0 := keeps_e hk h1
    have hnl : Nl (p0 s) := all_end 1000 0 [] e0
    obtain ⟨t, d, t1, t2, t3⟩ := (R_out n (.parse .or) (p0 s) hg (all_vt 1000 0 [] (Nat.zero_le _) (by simp)) h1).1 .or rfl
    rw [hx] at t1 t2 t3
    have hq := (R_nl n (.parse .or) (p0 s) hnl).1
    rw [hk.l] at hq
    have hlen := hg.ok.len
    have hl := parT_up (lvN .or) x t
    have h0 : (p0 s).deep = 0 := rfl
    have ha : (p0 s).at_ = 0 := rfl
    have l1 : t.length ≤ (parT (lvN .or) x t).length := by unfold parT; split <;> simp; omega
    exact ⟨t, d, t1, by omega, by rw [h0, zad] at t3; exact t3⟩
  · rename_i hf
    exact absurd (Prod.mk.inj h).2 hf
theorem levelM_ge (op : Int) : 1 ≤ levelM op := by
  unfold levelM
  repeat (split; · decide)
  decide
theorem pt_expr {x : Ex} {t : List Tk} {d : Nat} (h : Pt x t d) (hl : t.length + 1 ≤ 1000) (hd : parD 1 x d ≤ 50) : exprM 20007 x.pr = (x, 0) := by
  obtain ⟨ts, i, e1, e2⟩ := all_lex (s := x.pr) (pt_wr h) 1000 0 [] (by unfold At; simp) (Nat.zero_le _) (by omega) (pt_kd h)
  have ea : allM x.pr = (ts ++ [endT i], 0) := by unfold allM; rw [e1]; simp
  have hp : p0 x.pr = ⟨ts ++ [endT i], 0, 0, 0⟩ := by unfold p0; rw [ea]
  have hpt : parT (lvN .or) x t = t := par_not (by have := levelM_ge x.op; simp only [lvN]; omega)
  have htk : toks (p0 x.pr) = parT (lvN .or) x t ++ [⟨0, ⟨#[]⟩, 0⟩] := by
    rw [hpt, hp]
    unfold toks
    simp [e2, Tok.k]
  have he : (p0 x.pr).e = 0 := by rw [hp]
  have hU := (G_all h).1 .or 20007 (p0 x.pr) [⟨0, ⟨#[]⟩, 0⟩] he htk (fun k r e w hw => by cases e; rfl) (by rw [hp]; simpa [lvN] using hd) (by have := p0_mz x.pr; simp only [Lv.rank]; omega)
  rw [hpt] at hU
  have htok : toks ((p0 x.pr).adv t.length) = [⟨0, ⟨#[]⟩, 0⟩] := by rw [hpt] at htk; exact toks_app htk
  have hk0 : ((p0 x.pr).adv t.length).tok.kind = 0 := (tok_kind (p := (p0 x.pr).adv t.length) he htok).1
  have hfin : ((p0 x.pr).adv t.length).fin.e = 0 := by
    unfold Pst.fin
    rw [if_neg (by rw [hk0]; simp)]
    exact he
  unfold exprM
  rw [hU, if_pos hfin]
/-- A parsed expression's text is parsed to the same expression. -/
theorem expr_again {n : Nat} {s : ByteArray} {x : Ex} (h : exprM n s = (x, 0)) : exprM 20007 x.pr = (x, 0) ∧ x.pr.size ≤ 140000000 ∧ PrTree x := by
  obtain ⟨t, d, h1, h2, h3⟩ := expr_pt h
  have := pt_size h1
  exact ⟨pt_expr h1 h2 h3, by omega, pt_prtree h1 (by omega)⟩

end Go.Par
