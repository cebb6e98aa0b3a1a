import Derived.Test.YtihcfphmikebgaaDoorPrt24
namespace Go.Par
open Go Go.Am Go.Proofs Go.RowKit
set_option linter.unusedVariables false
set_option linter.unusedSimpArgs false

/-! A printed expression is parsed again: tokens -/
structure Tk where
  kd : Int
  tx : ByteArray
  nm : Int
def Tok.k (t : Tok) : Tk := ⟨t.kind, t.text, t.num⟩
def toks (p : Pst) : List Tk := (p.l.drop p.at_).map Tok.k
def Pst.adv (p : Pst) (k : Nat) : Pst := { p with at_ := p.at_ + k }
theorem adv_e (p : Pst) (k : Nat) : (p.adv k).e = p.e := rfl
theorem adv_deep (p : Pst) (k : Nat) : (p.adv k).deep = p.deep := rfl
theorem adv_zero (p : Pst) : p.adv 0 = p := rfl
theorem adv_adv (p : Pst) (j k : Nat) : (p.adv j).adv k = p.adv (j + k) := by simp [Pst.adv, Nat.add_assoc]
theorem step_adv (p : Pst) : p.step = p.adv 1 := rfl
theorem toks_adv (p : Pst) (k : Nat) : toks (p.adv k) = (toks p).drop k := by simp [toks, Pst.adv, List.map_drop]
theorem toks_app {p : Pst} {a b : List Tk} (h : toks p = a ++ b) : toks (p.adv a.length) = b := by rw [toks_adv, h]; simp
theorem toks_cons {p : Pst} {k : Tk} {r : List Tk} (h : toks p = k :: r) : toks p.step = r := by rw [step_adv, toks_adv, h]; rfl
theorem toks_len {p : Pst} {k : Tk} {r : List Tk} (h : toks p = k :: r) : p.at_ < p.l.length := by
  have := congrArg List.length h
  simp [toks] at this
  omega
theorem tok_cons {p : Pst} {k : Tk} {r : List Tk} (he : p.e = 0) (h : toks p = k :: r) : p.tok.k = k := by
  have hl := toks_len h
  unfold Pst.tok
  rw [if_pos ⟨he, hl⟩]
  unfold toks at h
  rw [List.drop_eq_getElem_cons hl, mpc] at h
  have := (List.cons.inj h).1
  simpa [List.getD_eq_getElem?_getD, hl] using this
def Tk.is (k : Tk) (s : ByteArray) : Bool := (k.kd == 2 || k.kd == 5) && decide (k.tx = s)
theorem is_cons {p : Pst} {k : Tk} {r : List Tk} (he : p.e = 0) (h : toks p = k :: r) (s : ByteArray) : p.is s = k.is s := by
  have := tok_cons he h
  unfold Pst.is Tk.is
  rw [← this]
  simp [he, Tok.k]
  try rfl
theorem is_nil {p : Pst} (h : toks p = []) (s : ByteArray) : p.is s = false := by
  have hl : p.l.length ≤ p.at_ := by
    have := congrArg List.length h
    simp [toks] at this
    omega
  unfold Pst.is Pst.tok
  rw [if_neg (by omega)]
  simp [Tok.zero]
theorem mz_of {p : Pst} (he : p.e = 0) : mz p = 20 * (toks p).length := by
  unfold mz
  rw [if_pos he]
  simp [toks]
abbrev openT : Tk := ⟨5, bOpen, 0⟩
abbrev closeT : Tk := ⟨5, bClose, 0⟩
abbrev dotT : Tk := ⟨5, ⟨#[46]⟩, 0⟩
abbrev wordT (s : ByteArray) : Tk := ⟨2, s, 0⟩
abbrev nameT (s : ByteArray) : Tk := ⟨1, s, 0⟩
/-- An operator's token. -/
def opT (op : Int) : Tk := ⟨if op = 10 ∨ op = 11 then 2 else 5, opM op, 0⟩
def lvN : Lv → Int
  | .or => 1 | .and => 2 | .not => 3 | .test => 4 | .sum => 5 | .prod => 6 | .atom => 7
def parT (lvl : Int) (x : Ex) (t : List Tk) : List Tk := if levelM x.op < lvl then openT :: (t ++ [closeT]) else t
def parD (lvl : Int) (x : Ex) (d : Nat) : Nat := if levelM x.op < lvl then d + 1 else d
def nameOk (s : ByteArray) : Prop := 0 < s.size ∧ s.size ≤ 32 ∧ isLetter (bAt s 0).toNat = true ∧ (∀ j, j < s.size → nmc (bAt s j).toNat = true) ∧ isWord s = false
/-- e is printed as these tokens; so deep it is parsed. -/
inductive Pt : Ex → List Tk → Nat → Prop where
  | col0 {name : ByteArray} (h : nameOk name) : Pt (exCol bs0 name) [nameT name] 0
  | col {tab name : ByteArray} (ht : nameOk tab) (h : nameOk name) : Pt (exCol tab name) [nameT tab, dotT, nameT name] 0
  | int {n : Int} (h0 : 0 ≤ n) (h1 : n ≤ 9223372036854775807) : Pt (exVal ⟨1, n, bs0⟩) [⟨3, itoaM n, n⟩] 0
  | txt {s : ByteArray} (h : s.size ≤ 65536) : Pt (exVal ⟨2, 0, s⟩) [⟨4, s, 0⟩] 0
  | null : Pt (exVal Val.null) [wordT bNull] 0
  | not {x : Ex} {t : List Tk} {d : Nat} (h : Pt x t d) : Pt (exOf 12 [x]) (wordT bNot :: parT 3 x t) (parD 3 x d + 1)
  | isn {x : Ex} {t : List Tk} {d : Nat} (h : Pt x t d) : Pt (exOf 13 [x]) (parT 5 x t ++ [wordT bIs, wordT bNull]) (parD 5 x d)
  | nnl {x : Ex} {t : List Tk} {d : Nat} (h : Pt x t d) : Pt (exOf 14 [x]) (parT 5 x t ++ [wordT bIs, wordT bNot, wordT bNull]) (parD 5 x d)
  | bin {op : Int} {x y : Ex} {t u : List Tk} {d c : Nat} (h1 : 1 ≤ op) (h2 : op ≤ 11) (hx : Pt x t d) (hy : Pt y u c) :
      Pt (exOf op [x, y]) (parT (asksM op 0) x t ++ opT op :: parT (asksM op 1) y u) (max (parD (asksM op 0) x d) (parD (asksM op 1) y c))
abbrev dotB : ByteArray := ⟨#[46]⟩
/-- What would go on behind a part of a level. -/
def cont : Lv → List ByteArray
  | .atom => [dotB]
  | .prod => ⟨#[42]⟩ :: [dotB]
  | .sum => ⟨#[43]⟩ :: ⟨#[45]⟩ :: ⟨#[42]⟩ :: [dotB]
  | .test => cmps ++ (bIs :: ⟨#[43]⟩ :: ⟨#[45]⟩ :: ⟨#[42]⟩ :: [dotB])
  | .not => cmps ++ (bIs :: ⟨#[43]⟩ :: ⟨#[45]⟩ :: ⟨#[42]⟩ :: [dotB])
  | .and => ⟨#[97, 110, 100]⟩ :: cmps ++ (bIs :: ⟨#[43]⟩ :: ⟨#[45]⟩ :: ⟨#[42]⟩ :: [dotB])
  | .or => ⟨#[111, 114]⟩ :: ⟨#[97, 110, 100]⟩ :: cmps ++ (bIs :: ⟨#[43]⟩ :: ⟨#[45]⟩ :: ⟨#[42]⟩ :: [dotB])
/-- Behind it nothing of these follows. -/
def stp (l : Lv) (rest : List Tk) : Prop := ∀ k r, rest = k :: r → ∀ w ∈ cont l, k.is w = false
theorem stp_is {l : Lv} {p : Pst} {rest : List Tk} (he : p.e = 0) (h : toks p = rest) (hs : stp l rest) {w : ByteArray} (hw : w ∈ cont l) : p.is w = false := by
  cases rest with
  | nil => exact is_nil h w
  | cons k r => rw [is_cons he h]; exact hs k r rfl w hw
theorem stp_sub {l l' : Lv} {rest : List Tk} (hs : stp l rest) (h : ∀ w ∈ cont l', w ∈ cont l) : stp l' rest := fun k r e w hw => hs k r e w (h w hw)
/-- Parsed at a level, the level's own text being next. -/
def UP (x : Ex) (t : List Tk) (d : Nat) (l : Lv) : Prop := ∀ (n : Nat) (p : Pst) (rest : List Tk), p.e = 0 → toks p = parT (lvN l) x t ++ rest → stp l rest → p.deep + parD (lvN l) x d ≤ 50 → mz p + l.rank ≤ n →
  R n (.parse l) p = (x, p.adv (parT (lvN l) x t).length)
def chn : Lv → Bool
  | .or | .and | .sum | .prod => true
  | _ => false
/-- Parsed as the head of a chain. -/
def VP (x : Ex) (t : List Tk) (d : Nat) (l : Lv) : Prop := ∀ (n : Nat) (p : Pst) (rest : List Tk), p.e = 0 → toks p = parT (lvN l) x t ++ rest → stp l.sub rest → p.deep + parD (lvN l) x d ≤ 50 → mz p + l.rank ≤ n →
  ∃ m, mz (p.adv (parT (lvN l) x t).length) < m ∧ R n (.parse l) p = R m (.loop l x) (p.adv (parT (lvN l) x t).length)
theorem mz_adv {p : Pst} {a b : List Tk} (he : p.e = 0) (h : toks p = a ++ b) : mz (p.adv a.length) + 20 * a.length = mz p := by
  rw [mz_of he, mz_of (p := p.adv a.length) he, toks_app h, h, List.length_append]; omega
theorem loop_stop {l : Lv} (hl : chn l = true) {m : Nat} {x : Ex} {p : Pst} {rest : List Tk} (he : p.e = 0) (h : toks p = rest) (hs : stp l rest) (hm : mz p < m) : R m (.loop l x) p = (x, p) := by
  obtain ⟨k, rfl⟩ : ∃ k, m = k + 1 := ⟨m - 1, by omega⟩
  rw [R, if_pos he]
  have : l.signs.find? p.is = none := by
    rw [List.find?_eq_none]
    intro w hw
    have hc : w ∈ cont l := by
      cases l <;> simp_all [Lv.signs, cont, chn]
      rcases hw with rfl | rfl <;> simp
    simp [stp_is he h hs hc]
  rw [this]
theorem vp_up {x : Ex} {t : List Tk} {d : Nat} {l : Lv} (hl : chn l = true) (h : VP x t d l) : UP x t d l := fun n p rest he ht hs hd hn => by
  obtain ⟨m, hm, e⟩ := h n p rest he ht (stp_sub hs (by cases l <;> simp_all [cont, Lv.sub, chn])) hd hn
  rw [e]
  exact loop_stop hl he (toks_app ht) hs hm
theorem head_open {lvl : Int} {x : Ex} {t : List Tk} (h : levelM x.op < lvl) : parT lvl x t = openT :: (t ++ [closeT]) := if_pos h
theorem par_not {lvl : Int} {x : Ex} {t : List Tk} (h : ¬ levelM x.op < lvl) : parT lvl x t = t := if_neg h
def nxt : Lv → Lv
  | .or => .and | .and => .not | .not => .test | .test => .sum | .sum => .prod | .prod => .atom | .atom => .atom
/-- From a level to the one that binds less, the text being the same. -/
theorem lift_chain {x : Ex} {t : List Tk} {d : Nat} {l : Lv} (hl : chn l = true) (h : UP x t d l.sub) (e1 : parT (lvN l) x t = parT (lvN l.sub) x t) (e2 : parD (lvN l) x d = parD (lvN l.sub) x d) : VP x t d l := fun n p rest he ht hs hd hn => by
  have hr : l.sub.rank < l.rank := by cases l <;> simp_all [chn, Lv.sub, Lv.rank]
  obtain ⟨k, rfl⟩ : ∃ k, n = k + 1 := ⟨n - 1, by omega⟩
  have h1 := h k p rest he (by rw [← e1]; exact ht) hs (by rw [← e2]; exact hd) (by omega)
  refine ⟨k, ?_, ?_⟩
  · have := mz_adv he ht
    have hr1 : 1 ≤ l.sub.rank := by cases l <;> simp_all [chn, Lv.sub, Lv.rank]
    omega
  · have : R (k + 1) (.parse l) p = R k (.loop l (R k (.parse l.sub) p).1) (R k (.parse l.sub) p).2 := by cases l <;> simp_all [chn, R]
    rw [this, h1, e1]
theorem lift_test {x : Ex} {t : List Tk} {d : Nat} (h : UP x t d .sum) (e1 : parT 4 x t = parT 5 x t) (e2 : parD 4 x d = parD 5 x d) : UP x t d .test := fun n p rest he ht hs hd hn => by
  obtain ⟨k, rfl⟩ : ∃ k, n = k + 1 := ⟨n - 1, by simp [Lv.rank] at hn; omega⟩
  have h1 := h k p rest he (by simp only [lvN] at ht ⊢; rw [← e1]; exact ht) (stp_sub hs (by simp [cont])) (by simp only [lvN] at hd ⊢; rw [← e2]; exact hd) (by simp only [Lv.rank] at hn ⊢; omega)
  simp only [lvN] at ht h1 ⊢
  rw [R, h1]
  have e3 : toks (p.adv (parT 5 x t).length) = rest := by rw [← e1]; exact toks_app ht
  have : cmps.find? (p.adv (parT 5 x t).length).is = none := by
    rw [List.find?_eq_none]
    intro w hw
    simp [stp_is (p := p.adv (parT 5 x t).length) he e3 hs (w := w) (by simp only [cont, List.mem_append]; exact .inl hw)]
  simp only [this, stp_is (p := p.adv (parT 5 x t).length) he e3 hs (w := bIs) (by simp [cont])]
  rw [e1]; simp
theorem lift_not {x : Ex} {t : List Tk} {d : Nat} (h : UP x t d .test) (e1 : parT 3 x t = parT 4 x t) (e2 : parD 3 x d = parD 4 x d) (hh : ∀ k r, parT 3 x t = k :: r → k.is bNot = false) (hne : parT 3 x t ≠ []) : UP x t d .not := fun n p rest he ht hs hd hn => by
  obtain ⟨k, rfl⟩ : ∃ k, n = k + 1 := ⟨n - 1, by simp [Lv.rank] at hn; omega⟩
  have h1 := h k p rest he (by simp only [lvN] at ht ⊢; rw [← e1]; exact ht) (stp_sub hs (by simp [cont])) (by simp only [lvN] at hd ⊢; rw [← e2]; exact hd) (by simp only [Lv.rank] at hn ⊢; omega)
  simp only [lvN] at ht h1 ⊢
  rw [R]
  have : p.is bNot = false := by
    cases hp : parT 3 x t with
    | nil => exact absurd hp hne
    | cons a r =>
      rw [hp] at ht
      rw [is_cons he ht]
      exact hh a r hp
  rw [this, h1, e1]; simp

end Go.Par

namespace Go.Par
open Go Go.Am Go.Proofs Go.RowKit
set_option linter.unusedVariables false
set_option linter.unusedSimpArgs false

/-! Every printed expression is parsed again: all levels -/
theorem is_name (s w : ByteArray) : (nameT s).is w = false := rfl
theorem lv_col (a b : ByteArray) : levelM (exCol a b).op = 7 := rfl
theorem lv_val (v : Val) : levelM (exVal v).op = 7 := rfl
theorem open_not (w : ByteArray) (h : bOpen ≠ w) : openT.is w = false := by simp [Tk.is, h]
theorem pt_head {x : Ex} {t : List Tk} {d : Nat} (h : Pt x t d) : t ≠ [] ∧ (4 ≤ levelM x.op → ∀ k r, t = k :: r → k.is bNot = false) := by
  have par : ∀ {x : Ex} {t : List Tk} {lvl : Int} (s : List Tk), 5 ≤ lvl → (t ≠ [] ∧ (4 ≤ levelM x.op → ∀ k r, t = k :: r → k.is bNot = false)) → ∀ k r, parT lvl x t ++ s = k :: r → k.is bNot = false := fun {x t lvl} s hl ih k r e => by
    by_cases hx : levelM x.op < lvl
    · rw [head_open hx] at e
      simp only [cap, List.cons.injEq] at e
      rw [← e.1]; rfl
    · rw [par_not hx] at e
      cases t with
      | nil => exact absurd rfl ih.1
      | cons a t =>
        simp only [cap, List.cons.injEq] at e
        rw [← e.1]
        exact ih.2 (by omega) a t rfl
  induction h with
  | col0 h => exact ⟨by simp, fun _ k r e => by cases e; rfl⟩
  | col ht h => exact ⟨by simp, fun _ k r e => by cases e; rfl⟩
  | int h0 h1 => exact ⟨by simp, fun _ k r e => by cases e; rfl⟩
  | txt h => exact ⟨by simp, fun _ k r e => by cases e; rfl⟩
  | null => exact ⟨by simp, fun _ k r e => by cases e; rfl⟩
  | not h ih => exact ⟨by simp, fun h4 => absurd h4 (by show ¬ (4 : Int) ≤ levelM 12; decide)⟩
  | isn h ih => exact ⟨by simp, fun _ => par _ (by decide) ih⟩
  | nnl h ih => exact ⟨by simp, fun _ => par _ (by decide) ih⟩
  | @bin op x y t u d c h1 h2 hx hy ihx ihy =>
    refine ⟨by simp, fun h4 => par _ ?_ ihx⟩
    have h4' : 4 ≤ levelM op := h4
    unfold levelM at h4'
    unfold asksM
    split at h4' <;> omega
theorem tok_kind {p : Pst} {k : Tk} {r : List Tk} (he : p.e = 0) (h : toks p = k :: r) : p.tok.kind = k.kd ∧ p.tok.text = k.tx ∧ p.tok.num = k.nm := by
  have := tok_cons he h
  rw [← this]; exact ⟨rfl, rfl, rfl⟩
/-- One deeper, and one token on. -/
theorem down_take {p : Pst} {k : Tk} {r : List Tk} {w : ByteArray} (he : p.e = 0) (h : toks p = k :: r) (hw : k.is w = true) (hd : p.deep + 1 ≤ 50) : p.down.take w = { p with deep := p.deep + 1, at_ := p.at_ + 1 } ∧ toks { p with deep := p.deep + 1, at_ := p.at_ + 1 } = r := by
  have e1 : p.down = { p with deep := p.deep + 1 } := by
    unfold Pst.down
    simp only
    rw [if_neg (by omega)]
  have e2 : toks { p with deep := p.deep + 1 } = k :: r := h
  have e3 : ({ p with deep := p.deep + 1 } : Pst).is w = true := by rw [is_cons (p := { p with deep := p.deep + 1 }) he e2, hw]
  refine ⟨by rw [e1, Pst.take, if_pos e3]; rfl, toks_cons e2⟩
theorem must_cons {p : Pst} {k : Tk} {r : List Tk} {w : ByteArray} (he : p.e = 0) (h : toks p = k :: r) (hw : k.is w = true) : p.must w = p.step := by
  unfold Pst.must
  rw [if_pos (by rw [is_cons he h, hw])]
theorem close_stp (rest : List Tk) : stp .or (closeT :: rest) := fun k r e w hw => by
  cases e
  have : ∀ w ∈ cont .or, closeT.is w = false := by decide
  exact this w hw
theorem up_paren {x : Ex} {t : List Tk} {d : Nat} (h : UP x t d .or) (h1 : 1 ≤ levelM x.op) (h7 : levelM x.op < 7) : UP x t d .atom := fun n p rest he ht hs hd hn => by
  obtain ⟨k, rfl⟩ : ∃ k, n = k + 1 := ⟨n - 1, by simp [Lv.rank] at hn; omega⟩
  have e0 : parT (lvN .atom) x t = openT :: (t ++ [closeT]) := head_open (by simpa [lvN] using h7)
  have e1 : parT (lvN .or) x t = t := par_not (by simp [lvN]; omega)
  have e2 : parD (lvN .or) x d = d := if_neg (by simp [lvN]; omega)
  have e3 : parD (lvN .atom) x d = d + 1 := if_pos (by simpa [lvN] using h7)
  rw [e0] at ht ⊢
  rw [e3] at hd
  simp only [cap, List.append_assoc, List.singleton_append] at ht
  obtain ⟨k1, k2, k3⟩ := tok_kind he ht
  obtain ⟨q1, q2⟩ := down_take (w := bOpen) he ht rfl (by omega)
  generalize hq : ({ p with deep := p.deep + 1, at_ := p.at_ + 1 } : Pst) = q at q1 q2
  have hqe : q.e = 0 := by rw [← hq]; exact he
  have hmz : mz p = mz q + 20 := by rw [mz_of he, mz_of hqe, ht, q2]; simp; omega
  have r1 := h k q (closeT :: rest) hqe (by rw [e1]; exact q2) (close_stp rest) (by rw [e2, ← hq]; show p.deep + 1 + d ≤ 50; omega) (by simp only [Lv.rank] at hn ⊢; omega)
  rw [e1] at r1
  have r2 : toks (q.adv t.length) = closeT :: rest := toks_app q2
  rw [R, if_neg (by rw [k1]; decide), if_neg (by rw [k1]; decide), if_neg (by rw [is_cons he ht]; decide), if_pos (by rw [is_cons he ht]; decide), q1, r1]
  simp only
  rw [must_cons (p := q.adv t.length) hqe r2 rfl]
  simp only [Prod.mk.injEq, true_and]
  rw [← hq]
  simp [Pst.up, Pst.step, Pst.adv]
  omega
abbrev G (x : Ex) (t : List Tk) (d : Nat) : Prop := (∀ l, UP x t d l) ∧ ∀ l, chn l = true → VP x t d l
theorem par_iff {a b : Int} {x : Ex} {t : List Tk} (h : levelM x.op < a ↔ levelM x.op < b) : parT a x t = parT b x t := by
  by_cases hc : levelM x.op < a
  · rw [parT, parT, if_pos hc, if_pos (h.1 hc)]
  · rw [parT, parT, if_neg hc, if_neg (fun e => hc (h.2 e))]
theorem parD_iff {a b : Int} {x : Ex} {d : Nat} (h : levelM x.op < a ↔ levelM x.op < b) : parD a x d = parD b x d := by
  by_cases hc : levelM x.op < a
  · rw [parD, parD, if_pos hc, if_pos (h.1 hc)]
  · rw [parD, parD, if_neg hc, if_neg (fun e => hc (h.2 e))]
theorem lift {x : Ex} {t : List Tk} {d : Nat} (hp : Pt x t d) (l : Lv) (hl : l ≠ .atom) (hne : levelM x.op ≠ lvN l) (h : UP x t d (nxt l)) : UP x t d l ∧ (chn l = true → VP x t d l) := by
  have hi : levelM x.op < lvN l ↔ levelM x.op < lvN (nxt l) := by
    cases l <;> simp only [lvN, nxt] at hne ⊢ <;> first | exact absurd rfl hl | omega
  have e1 : parT (lvN l) x t = parT (lvN (nxt l)) x t := par_iff hi
  have e2 : parD (lvN l) x d = parD (lvN (nxt l)) x d := parD_iff hi
  have viaC : chn l = true → nxt l = l.sub → UP x t d l ∧ (chn l = true → VP x t d l) := fun hc hs => by
    have hv := lift_chain hc (by rw [← hs]; exact h) (by rw [← hs]; exact e1) (by rw [← hs]; exact e2)
    exact ⟨vp_up hc hv, fun _ => hv⟩
  cases l with
  | or => exact viaC rfl rfl
  | and => exact viaC rfl rfl
  | sum => exact viaC rfl rfl
  | prod => exact viaC rfl rfl
  | atom => exact absurd rfl hl
  | test => exact ⟨lift_test h e1 e2, fun hc => by cases hc⟩
  | not =>
    have hh := pt_head hp
    refine ⟨lift_not h e1 e2 (fun k r e => ?_) ?_, fun hc => by cases hc⟩
    · by_cases hc : levelM x.op < 3
      · rw [head_open hc] at e
        rw [← (List.cons.inj e).1]; rfl
      · rw [par_not hc] at e
        simp only [lvN] at hne
        exact hh.2 (by omega) k r e
    · by_cases hc : levelM x.op < 3
      · rw [head_open hc]; simp
      · rw [par_not hc]; exact hh.1
theorem assemble {x : Ex} {t : List Tk} {d : Nat} (hp : Pt x t d) (L : Lv) (hL : levelM x.op = lvN L) (hU : UP x t d L) (hV : chn L = true → VP x t d L) : G x t d := by
  have lf : ∀ l, l ≠ .atom → l ≠ L → UP x t d (nxt l) → UP x t d l ∧ (chn l = true → VP x t d l) := fun l h1 h2 h => lift hp l h1 (by rw [hL]; intro e; apply h2; cases l <;> cases L <;> first | rfl | (simp [lvN] at e)) h
  have pa : lvN L < 7 → UP x t d .or → UP x t d .atom := fun h hu => up_paren hu (by rw [hL]; cases L <;> simp [lvN]) (by rw [hL]; exact h)
  have fin : UP x t d .or ∧ (chn .or = true → VP x t d .or) → UP x t d .and ∧ (chn .and = true → VP x t d .and) → UP x t d .not → UP x t d .test → UP x t d .sum ∧ (chn .sum = true → VP x t d .sum) → UP x t d .prod ∧ (chn .prod = true → VP x t d .prod) → UP x t d .atom → G x t d :=
    fun a b c e f g h => ⟨fun l => by cases l <;> first | exact a.1 | exact b.1 | exact c | exact e | exact f.1 | exact g.1 | exact h, fun l hl => by cases l <;> first | exact a.2 hl | exact b.2 hl | exact f.2 hl | exact g.2 hl | cases hl⟩
  cases L with
  | atom =>
    have p1 := lf .prod (by simp) (by simp) hU
    have p2 := lf .sum (by simp) (by simp) p1.1
    have p3 := lf .test (by simp) (by simp) p2.1
    have p4 := lf .not (by simp) (by simp) p3.1
    have p5 := lf .and (by simp) (by simp) p4.1
    have p6 := lf .or (by simp) (by simp) p5.1
    exact fin p6 p5 p4.1 p3.1 p2 p1 hU
  | prod =>
    have p2 := lf .sum (by simp) (by simp) hU
    have p3 := lf .test (by simp) (by simp) p2.1
    have p4 := lf .not (by simp) (by simp) p3.1
    have p5 := lf .and (by simp) (by simp) p4.1
    have p6 := lf .or (by simp) (by simp) p5.1
    exact fin p6 p5 p4.1 p3.1 p2 ⟨hU, hV⟩ (pa (by decide) p6.1)
  | sum =>
    have p3 := lf .test (by simp) (by simp) hU
    have p4 := lf .not (by simp) (by simp) p3.1
    have p5 := lf .and (by simp) (by simp) p4.1
    have p6 := lf .or (by simp) (by simp) p5.1
    have p0 := pa (by decide) p6.1
    exact fin p6 p5 p4.1 p3.1 ⟨hU, hV⟩ (lf .prod (by simp) (by simp) p0) p0
  | test =>
    have p4 := lf .not (by simp) (by simp) hU
    have p5 := lf .and (by simp) (by simp) p4.1
    have p6 := lf .or (by simp) (by simp) p5.1
    have p0 := pa (by decide) p6.1
    have p1 := lf .prod (by simp) (by simp) p0
    exact fin p6 p5 p4.1 hU (lf .sum (by simp) (by simp) p1.1) p1 p0
  | not =>
    have p5 := lf .and (by simp) (by simp) hU
    have p6 := lf .or (by simp) (by simp) p5.1
    have p0 := pa (by decide) p6.1
    have p1 := lf .prod (by simp) (by simp) p0
    have p2 := lf .sum (by simp) (by simp) p1.1
    exact fin p6 p5 hU (lf .test (by simp) (by simp) p2.1).1 p2 p1 p0
  | and =>
    have p6 := lf .or (by simp) (by simp) hU
    have p0 := pa (by decide) p6.1
    have p1 := lf .prod (by simp) (by simp) p0
    have p2 := lf .sum (by simp) (by simp) p1.1
    have p3 := lf .test (by simp) (by simp) p2.1
    exact fin p6 ⟨hU, hV⟩ (lf .not (by simp) (by simp) p3.1).1 p3.1 p2 p1 p0
  | or =>
    have p0 := pa (by decide) hU
    have p1 := lf .prod (by simp) (by simp) p0
    have p2 := lf .sum (by simp) (by simp) p1.1
    have p3 := lf .test (by simp) (by simp) p2.1
    have p4 := lf .not (by simp) (by simp) p3.1
    have p5 := lf .and (by simp) (by simp) p4.1
    exact fin ⟨hU, hV⟩ p5 p4.1 p3.1 p2 p1 p0

end Go.Par

namespace Go.Par
open Go Go.Am Go.Proofs Go.RowKit
set_option linter.unusedVariables false
set_option linter.unusedSimpArgs false

/-! Every printed expression is parsed again -/
theorem par7 {x : Ex} {t : List Tk} (h : levelM x.op = 7) : parT (lvN .atom) x t = t := par_not (by rw [h]; decide)
theorem is_fun {p : Pst} {k : Tk} {r : List Tk} (he : p.e = 0) (h : toks p = k :: r) : p.is = k.is := funext fun s => is_cons he h s
theorem up_col0 {name : ByteArray} : UP (exCol bs0 name) [nameT name] 0 .atom := fun n p rest he ht hs hd hn => by
  obtain ⟨k, rfl⟩ : ∃ k, n = k + 1 := ⟨n - 1, by simp [Lv.rank] at hn; omega⟩
  rw [par7 rfl] at ht ⊢
  obtain ⟨k1, k2, _⟩ := tok_kind he ht
  have h2 := stp_is (p := p.step) he (toks_cons ht) hs (w := dotB) (by simp [cont])
  have hn : p.name = (name, p.step) := by unfold Pst.name; rw [if_pos k1, k2]
  rw [R, if_neg (by rw [k1]; simp), if_neg (by rw [k1]; simp), if_neg (by rw [is_cons he ht, is_name]; decide), if_neg (by rw [is_cons he ht, is_name]; decide)]
  unfold Pst.col
  rw [hn]
  simp only
  rw [if_neg (by rw [h2]; decide)]
  rfl
theorem up_col {tab name : ByteArray} : UP (exCol tab name) [nameT tab, dotT, nameT name] 0 .atom := fun n p rest he ht hs hd hn => by
  obtain ⟨k, rfl⟩ : ∃ k, n = k + 1 := ⟨n - 1, by simp [Lv.rank] at hn; omega⟩
  rw [par7 rfl] at ht ⊢
  obtain ⟨k1, k2, _⟩ := tok_kind he ht
  have t1 := toks_cons ht
  have t2 := toks_cons (p := p.step) t1
  obtain ⟨k3, k4, _⟩ := tok_kind (p := p.step.step) he t2
  have hn : p.name = (tab, p.step) := by unfold Pst.name; rw [if_pos k1, k2]
  have hn2 : p.step.step.name = (name, p.step.step.step) := by unfold Pst.name; rw [if_pos k3, k4]
  rw [R, if_neg (by rw [k1]; simp), if_neg (by rw [k1]; simp), if_neg (by rw [is_cons he ht, is_name]; decide), if_neg (by rw [is_cons he ht, is_name]; decide)]
  unfold Pst.col
  rw [hn]
  simp only
  rw [if_pos (by rw [is_cons (p := p.step) he t1]; rfl), hn2]
  rfl
theorem up_int {m : Int} : UP (exVal ⟨1, m, bs0⟩) [⟨3, itoaM m, m⟩] 0 .atom := fun n p rest he ht hs hd hn => by
  obtain ⟨k, rfl⟩ : ∃ k, n = k + 1 := ⟨n - 1, by simp [Lv.rank] at hn; omega⟩
  rw [par7 rfl] at ht ⊢
  obtain ⟨k1, k2, k3⟩ := tok_kind he ht
  rw [R, if_pos k1, k3]
  rfl
theorem up_txt {s : ByteArray} : UP (exVal ⟨2, 0, s⟩) [⟨4, s, 0⟩] 0 .atom := fun n p rest he ht hs hd hn => by
  obtain ⟨k, rfl⟩ : ∃ k, n = k + 1 := ⟨n - 1, by simp [Lv.rank] at hn; omega⟩
  rw [par7 rfl] at ht ⊢
  obtain ⟨k1, k2, k3⟩ := tok_kind he ht
  rw [R, if_neg (by rw [k1]; simp), if_pos k1, k2]
  rfl
theorem up_null : UP (exVal Val.null) [wordT bNull] 0 .atom := fun n p rest he ht hs hd hn => by
  obtain ⟨k, rfl⟩ : ∃ k, n = k + 1 := ⟨n - 1, by simp [Lv.rank] at hn; omega⟩
  rw [par7 rfl] at ht ⊢
  obtain ⟨k1, k2, k3⟩ := tok_kind he ht
  rw [R, if_neg (by rw [k1]; simp), if_neg (by rw [k1]; simp), if_pos (by rw [is_cons he ht]; rfl)]
  rfl
theorem up_not {x : Ex} {t : List Tk} {d : Nat} (h : G x t d) : UP (exOf 12 [x]) (wordT bNot :: parT 3 x t) (parD 3 x d + 1) .not := fun n p rest he ht hs hd hn => by
  obtain ⟨k, rfl⟩ : ∃ k, n = k + 1 := ⟨n - 1, by simp [Lv.rank] at hn; omega⟩
  have e0 : parT (lvN .not) (exOf 12 [x]) (wordT bNot :: parT 3 x t) = wordT bNot :: parT 3 x t := par_not (show ¬ levelM 12 < 3 by decide)
  have e1 : parD (lvN .not) (exOf 12 [x]) (parD 3 x d + 1) = parD 3 x d + 1 := if_neg (show ¬ levelM 12 < 3 by decide)
  rw [e0] at ht ⊢
  rw [e1] at hd
  rw [cap] at ht
  obtain ⟨q1, q2⟩ := down_take (w := bNot) he ht rfl (by omega)
  generalize hq : ({ p with deep := p.deep + 1, at_ := p.at_ + 1 } : Pst) = q at q1 q2
  have hqe : q.e = 0 := by rw [← hq]; exact he
  have hmz : mz p = mz q + 20 := by rw [mz_of he, mz_of hqe, ht, q2]; simp; omega
  have r1 := h.1 .not k q rest hqe q2 hs (by rw [← hq]; show p.deep + 1 + parD 3 x d ≤ 50; omega) (by simp only [Lv.rank] at hn ⊢; omega)
  rw [R, if_pos (by rw [is_cons he ht]; rfl), q1, r1]
  simp only [Prod.mk.injEq, true_and]
  rw [← hq]
  simp [Pst.up, Pst.adv, lvN]
  omega
theorem stp_is_sum (r : List Tk) : stp .sum (wordT bIs :: r) := fun k r' e w hw => by
  cases e
  have : ∀ w ∈ cont .sum, (wordT bIs).is w = false := by decide
  exact this w hw
theorem is_cmps : cmps.find? (wordT bIs).is = none := by decide
/-- The state behind some tokens. -/
theorem sum_then {x : Ex} {t : List Tk} {d : Nat} (h : G x t d) {k : Nat} {p : Pst} {r : List Tk} (he : p.e = 0) (ht : toks p = parT 5 x t ++ r) (hs : stp .sum r) (hd : p.deep + parD 5 x d ≤ 50) (hn : mz p + 3 ≤ k) :
    R k (.parse .sum) p = (x, p.adv (parT 5 x t).length) ∧ toks (p.adv (parT 5 x t).length) = r := ⟨h.1 .sum k p r he ht hs hd hn, toks_app ht⟩
theorem up_isn {x : Ex} {t : List Tk} {d : Nat} (h : G x t d) : UP (exOf 13 [x]) (parT 5 x t ++ [wordT bIs, wordT bNull]) (parD 5 x d) .test := fun n p rest he ht hs hd hn => by
  obtain ⟨k, rfl⟩ : ∃ k, n = k + 1 := ⟨n - 1, by simp [Lv.rank] at hn; omega⟩
  have e0 : ∀ u, parT (lvN .test) (exOf 13 [x]) u = u := fun u => par_not (show ¬ levelM 13 < 4 by decide)
  have e1 : ∀ u, parD (lvN .test) (exOf 13 [x]) u = u := fun u => if_neg (show ¬ levelM 13 < 4 by decide)
  rw [e0] at ht ⊢
  rw [e1] at hd
  rw [List.append_assoc] at ht
  obtain ⟨r1, r2⟩ := sum_then h (k := k) he ht (stp_is_sum _) hd (by simp only [Lv.rank] at hn ⊢; omega)
  generalize hq : p.adv (parT 5 x t).length = q at r1 r2
  have hqe : q.e = 0 := by rw [← hq]; exact he
  have t1 := toks_cons r2
  have e3 : q.step.is bNot = false := by rw [is_cons (p := q.step) hqe t1]; decide
  rw [R, r1]
  simp only
  rw [is_fun hqe r2, is_cmps]
  simp only
  rw [if_pos (show (wordT bIs).is bIs = true by decide), e3, if_neg (by decide), Pst.take, e3, if_neg (by decide), must_cons (p := q.step) hqe t1 rfl, ← hq]
  simp [Pst.step, Pst.adv, Nat.add_assoc]
theorem up_nnl {x : Ex} {t : List Tk} {d : Nat} (h : G x t d) : UP (exOf 14 [x]) (parT 5 x t ++ [wordT bIs, wordT bNot, wordT bNull]) (parD 5 x d) .test := fun n p rest he ht hs hd hn => by
  obtain ⟨k, rfl⟩ : ∃ k, n = k + 1 := ⟨n - 1, by simp [Lv.rank] at hn; omega⟩
  have e0 : ∀ u, parT (lvN .test) (exOf 14 [x]) u = u := fun u => par_not (show ¬ levelM 14 < 4 by decide)
  have e1 : ∀ u, parD (lvN .test) (exOf 14 [x]) u = u := fun u => if_neg (show ¬ levelM 14 < 4 by decide)
  rw [e0] at ht ⊢
  rw [e1] at hd
  rw [List.append_assoc] at ht
  obtain ⟨r1, r2⟩ := sum_then h (k := k) he ht (stp_is_sum _) hd (by simp only [Lv.rank] at hn ⊢; omega)
  generalize hq : p.adv (parT 5 x t).length = q at r1 r2
  have hqe : q.e = 0 := by rw [← hq]; exact he
  have t1 := toks_cons r2
  have t2 := toks_cons (p := q.step) t1
  have e3 : q.step.is bNot = true := by rw [is_cons (p := q.step) hqe t1]; decide
  rw [R, r1]
  simp only
  rw [is_fun hqe r2, is_cmps]
  simp only
  rw [if_pos (show (wordT bIs).is bIs = true by decide), e3, if_pos rfl, Pst.take, e3, if_pos rfl, must_cons (p := q.step.step) hqe t2 rfl, ← hq]
  simp [Pst.step, Pst.adv, Nat.add_assoc]
/-- What is closed and known of an operator that compares. -/
structure CmpOp (op : Int) : Prop where
  f : cmps.find? (opT op).is = some (opM op)
  o : opOf (opM op) = op
  a : asksM op 0 = 5
  b : asksM op 1 = 5
  l : levelM op = 4
  s : ∀ w ∈ cont .sum, (opT op).is w = false
theorem cmp_op {op : Int} (h1 : 1 ≤ op) (h2 : op ≤ 6) : CmpOp op := by
  have : op = 1 ∨ op = 2 ∨ op = 3 ∨ op = 4 ∨ op = 5 ∨ op = 6 := by omega
  rcases this with rfl | rfl | rfl | rfl | rfl | rfl <;> exact ⟨by decide, by decide, by decide, by decide, by decide, by decide⟩
theorem up_cmp {op : Int} (c : CmpOp op) {x y : Ex} {t u : List Tk} {d e : Nat} (hx : G x t d) (hy : G y u e) : UP (exOf op [x, y]) (parT (asksM op 0) x t ++ opT op :: parT (asksM op 1) y u) (max (parD (asksM op 0) x d) (parD (asksM op 1) y e)) .test := fun n p rest he ht hs hd hn => by
  obtain ⟨k, rfl⟩ : ∃ k, n = k + 1 := ⟨n - 1, by simp [Lv.rank] at hn; omega⟩
  have e0 : ∀ v, parT (lvN .test) (exOf op [x, y]) v = v := fun v => par_not (by show ¬ levelM op < 4; rw [c.l]; decide)
  have e1 : ∀ v, parD (lvN .test) (exOf op [x, y]) v = v := fun v => if_neg (by show ¬ levelM op < 4; rw [c.l]; decide)
  rw [e0] at ht ⊢
  rw [e1] at hd
  rw [c.a, c.b] at ht hd ⊢
  rw [List.append_assoc, cap] at ht
  obtain ⟨r1, r2⟩ := sum_then hx (k := k) he ht (fun k r' e w hw => by cases e; exact c.s w hw) (by omega) (by simp only [Lv.rank] at hn ⊢; omega)
  have hmz := mz_adv he ht
  generalize hq : p.adv (parT 5 x t).length = q at r1 r2 hmz
  have hqe : q.e = 0 := by rw [← hq]; exact he
  have t1 := toks_cons r2
  obtain ⟨r3, r4⟩ := sum_then hy (k := k) (p := q.step) hqe t1 (stp_sub hs (by simp [cont])) (by show q.deep + _ ≤ 50; rw [← hq]; show p.deep + _ ≤ 50; omega) (by
    have : mz q = mz q.step + 20 := by rw [mz_of hqe, mz_of (p := q.step) hqe, r2, t1]; simp; omega
    simp only [Lv.rank] at hn ⊢; omega)
  rw [R, r1]
  simp only
  rw [is_fun hqe r2, c.f]
  simp only
  rw [r3, c.o, ← hq]
  simp [Pst.step, Pst.adv, Nat.add_assoc, Nat.add_comm, Nat.add_left_comm]
/-- What is closed and known of an operator of a chain. -/
structure ChOp (l : Lv) (op : Int) : Prop where
  c : chn l = true
  f : l.signs.find? (opT op).is = some (opM op)
  o : opOf (opM op) = op
  a : asksM op 0 = lvN l
  b : asksM op 1 = lvN l.sub
  lv : levelM op = lvN l
  s : ∀ w ∈ cont l.sub, (opT op).is w = false
theorem vp_bin {l : Lv} {op : Int} (c : ChOp l op) {x y : Ex} {t u : List Tk} {d e : Nat} (hx : G x t d) (hy : G y u e) : VP (exOf op [x, y]) (parT (asksM op 0) x t ++ opT op :: parT (asksM op 1) y u) (max (parD (asksM op 0) x d) (parD (asksM op 1) y e)) l := fun n p rest he ht hs hd hn => by
  have e0 : ∀ v, parT (lvN l) (exOf op [x, y]) v = v := fun v => par_not (by show ¬ levelM op < _; rw [c.lv]; omega)
  have e1 : ∀ v, parD (lvN l) (exOf op [x, y]) v = v := fun v => if_neg (by show ¬ levelM op < _; rw [c.lv]; omega)
  rw [e0] at ht ⊢
  rw [e1] at hd
  rw [c.a, c.b] at ht hd ⊢
  have ht0 := ht
  rw [List.append_assoc, cap] at ht
  obtain ⟨m, hm, r1⟩ := hx.2 l c.c n p _ he ht (fun k r' e w hw => by cases e; exact c.s w hw) (by omega) hn
  have r2 := toks_app ht
  generalize hq : p.adv (parT (lvN l) x t).length = q at hm r1 r2
  have hqe : q.e = 0 := by rw [← hq]; exact he
  have t1 := toks_cons r2
  have hz : mz q = mz q.step + 20 := by rw [mz_of hqe, mz_of (p := q.step) hqe, r2, t1]; simp; omega
  obtain ⟨k, rfl⟩ : ∃ k, m = k + 1 := ⟨m - 1, by omega⟩
  have hr : l.sub.rank ≤ 7 := by cases l <;> decide
  have r3 := hy.1 l.sub k q.step rest hqe t1 hs (by show q.deep + _ ≤ 50; rw [← hq]; show p.deep + _ ≤ 50; omega) (by omega)
  have t4 : (parT (lvN l) x t ++ opT op :: parT (lvN l.sub) y u).length = (parT (lvN l) x t).length + 1 + (parT (lvN l.sub) y u).length := by simp; omega
  have hfin : q.step.adv (parT (lvN l.sub) y u).length = p.adv (parT (lvN l) x t ++ opT op :: parT (lvN l.sub) y u).length := by
    rw [t4, ← hq, step_adv, adv_adv, adv_adv]
    simp only [Nat.add_assoc]
  refine ⟨k, ?_, ?_⟩
  · rw [← hfin]
    have := mz_adv (p := q.step) hqe t1
    omega
  · rw [r1, R, if_pos hqe, is_fun hqe r2, c.f]
    simp only
    rw [r3, c.o, hfin]
theorem G_all {x : Ex} {t : List Tk} {d : Nat} (h : Pt x t d) : G x t d := by
  induction h with
  | col0 h => exact assemble (.col0 h) .atom rfl up_col0 (fun h => by cases h)
  | col ht h => exact assemble (.col ht h) .atom rfl up_col (fun h => by cases h)
  | int h0 h1 => exact assemble (.int h0 h1) .atom rfl up_int (fun h => by cases h)
  | txt h => exact assemble (.txt h) .atom rfl up_txt (fun h => by cases h)
  | null => exact assemble .null .atom rfl up_null (fun h => by cases h)
  | not h ih => exact assemble (.not h) .not (show levelM 12 = 3 by decide) (up_not ih) (fun h => by cases h)
  | isn h ih => exact assemble (.isn h) .test (show levelM 13 = 4 by decide) (up_isn ih) (fun h => by cases h)
  | nnl h ih => exact assemble (.nnl h) .test (show levelM 14 = 4 by decide) (up_nnl ih) (fun h => by cases h)
  | @bin op x y t u d c h1 h2 hx hy ihx ihy =>
    have ch : ∀ l, ChOp l op → G (exOf op [x, y]) (parT (asksM op 0) x t ++ opT op :: parT (asksM op 1) y u) (max (parD (asksM op 0) x d) (parD (asksM op 1) y c)) := fun l co =>
      have hv := vp_bin co ihx ihy
      assemble (.bin h1 h2 hx hy) l co.lv (vp_up co.c hv) (fun _ => hv)
    by_cases h6 : op ≤ 6
    · have co := cmp_op h1 h6
      exact assemble (.bin h1 h2 hx hy) .test co.l (up_cmp co ihx ihy) (fun h => by cases h)
    · have : op = 7 ∨ op = 8 ∨ op = 9 ∨ op = 10 ∨ op = 11 := by omega
      rcases this with rfl | rfl | rfl | rfl | rfl
      · exact ch .sum ⟨by decide, by decide, by decide, by decide, by decide, by decide, by decide⟩
      · exact ch .sum ⟨by decide, by decide, by decide, by decide, by decide, by decide, by decide⟩
      · exact ch .prod ⟨by decide, by decide, by decide, by decide, by decide, by decide, by decide⟩
      · exact ch .and ⟨by decide, by decide, by decide, by decide, by decide, by decide, by decide⟩
      · exact ch .or ⟨by decide, by decide, by decide, by decide, by decide, by decide, by decide⟩

end Go.Par

namespace Go.Par
open Go Go.Am Go.Proofs Go.RowKit
set_option linter.unusedVariables false
set_option linter.unusedSimpArgs false

/-! What is parsed can be printed, in no more tokens and no more depth -/
structure VTok (t : Tok) : Prop where
  name : t.kind = 1 → nameOk t.text
  lo : t.kind = 3 → 0 ≤ t.num
  hi : t.kind = 3 → t.num ≤ 9223372036854775807
  txt : t.kind = 4 → t.text.size ≤ 65536
def VL (p : Pst) : Prop := ∀ t ∈ p.l, VTok t
theorem tok_vt {p : Pst} (h : VL p) : VTok p.tok := by
  unfold Pst.tok
  split
  · rename_i hh
    refine h _ ?_
    simp [List.getD_eq_getElem?_getD, hh.2]
  · exact ⟨fun e => by simp [Tok.zero] at e, fun e => by simp [Tok.zero] at e, fun e => by simp [Tok.zero] at e, fun e => by simp [Tok.zero] at e⟩
theorem parT_le {a b : Int} (h : a ≤ b) (x : Ex) (t : List Tk) : (parT a x t).length ≤ (parT b x t).length := by
  unfold parT
  split
  · rw [if_pos (by omega)]; exact ler _
  · split <;> simp; omega
theorem parT_up (b : Int) (x : Ex) (t : List Tk) : (parT b x t).length ≤ t.length + 2 := by
  unfold parT
  split <;> simp
theorem parD_le {a b : Int} (h : a ≤ b) (x : Ex) (d : Nat) : parD a x d ≤ parD b x d := by
  unfold parD
  split
  · rw [if_pos (by omega)]; exact ler _
  · split <;> omega
theorem parD_up (b : Int) (x : Ex) (d : Nat) : parD b x d ≤ d + 1 := by
  unfold parD
  split <;> omega
theorem parD_not {lvl : Int} {x : Ex} {d : Nat} (h : ¬ levelM x.op < lvl) : parD lvl x d = d := if_neg h
theorem keeps_e {p q : Pst} (h : Keeps p q) (hq : q.e = 0) : p.e = 0 := by
  by_cases he : p.e = 0
  · exact he
  · rw [h.err he] at hq; exact absurd hq he
theorem down_e {p : Pst} {w : ByteArray} (hi : p.is w = true) (h : (p.down.take w).e = 0) : p.deep + 1 ≤ 50 ∧ p.down.take w = { p with deep := p.deep + 1, at_ := p.at_ + 1 } := by
  by_cases hd : p.deep + 1 > 50
  · exfalso
    have e1 : p.down = ({ p with deep := p.deep + 1 } : Pst).fail 4 := by
      unfold Pst.down
      simp only
      rw [if_pos hd]
    have e2 : p.down.e ≠ 0 := by
      rw [e1]; unfold Pst.fail
      rw [if_pos (show ({ p with deep := p.deep + 1 } : Pst).e = 0 from Pst.is_e hi)]
      simp
    have e3 : p.down.is w = false := by
      unfold Pst.is
      simp [e2]
    rw [Pst.take, e3] at h
    exact e2 h
  · refine ⟨by omega, ?_⟩
    have e1 : p.down = { p with deep := p.deep + 1 } := by
      unfold Pst.down
      simp only
      rw [if_neg hd]
    have e3 : ({ p with deep := p.deep + 1 } : Pst).is w = true := hi
    rw [e1, Pst.take, if_pos e3]; rfl
theorem must_e {p : Pst} {w : ByteArray} (h : (p.must w).e = 0) : p.is w = true ∧ p.must w = p.step := by
  unfold Pst.must at h ⊢
  by_cases hi : p.is w = true
  · rw [if_pos hi]; exact ⟨hi, rfl⟩
  · rw [if_neg hi] at h
    exfalso
    unfold Pst.fail at h
    split at h
    · simp at h
    · rename_i hh; exact hh h
theorem name_e {p : Pst} (h : p.name.2.e = 0) : p.tok.kind = 1 ∧ p.name = (p.tok.text, p.step) := by
  unfold Pst.name at h ⊢
  by_cases hi : p.tok.kind = 1
  · rw [if_pos hi]; exact ⟨hi, rfl⟩
  · rw [if_neg hi] at h
    exfalso
    unfold Pst.fail at h
    split at h
    · simp at h
    · rename_i hh; exact hh h
theorem take_e {p : Pst} {w : ByteArray} (hi : p.is w = true) : p.take w = p.step := if_pos hi
theorem chop_of {l : Lv} (hl : chn l = true) {s : ByteArray} (hs : s ∈ l.signs) : ChOp l (opOf s) ∧ 1 ≤ opOf s ∧ opOf s ≤ 11 := by
  cases l <;> simp only [Lv.signs, List.mem_cons, List.not_mem_nil, or_false] at hs
  · subst hs; exact ⟨⟨by decide, by decide, by decide, by decide, by decide, by decide, by decide⟩, by decide, by decide⟩
  · subst hs; exact ⟨⟨by decide, by decide, by decide, by decide, by decide, by decide, by decide⟩, by decide, by decide⟩
  · rcases hs with rfl | rfl <;> exact ⟨⟨by decide, by decide, by decide, by decide, by decide, by decide, by decide⟩, by decide, by decide⟩
  · subst hs; exact ⟨⟨by decide, by decide, by decide, by decide, by decide, by decide, by decide⟩, by decide, by decide⟩
theorem cmp_of {s : ByteArray} (hs : s ∈ cmps) : CmpOp (opOf s) ∧ 1 ≤ opOf s ∧ opOf s ≤ 11 := by
  simp only [cmps, List.mem_cons, List.not_mem_nil, or_false] at hs
  rcases hs with rfl | rfl | rfl | rfl | rfl | rfl <;> exact ⟨⟨by decide, by decide, by decide, by decide, by decide, by decide⟩, by decide, by decide⟩
/-- Parsed from p to q: printed so. -/
def Out (c : Nat) (p : Pst) (lvl : Int) (x : Ex) (q : Pst) : Prop := ∃ t d, Pt x t d ∧ c + (parT lvl x t).length ≤ q.at_ ∧ p.deep + parD lvl x d ≤ 50
theorem Out.weak {c : Nat} {p q : Pst} {a b : Int} {x : Ex} (h : Out c p b x q) (hab : a ≤ b) : Out c p a x q := by
  obtain ⟨t, d, h1, h2, h3⟩ := h
  exact ⟨t, d, h1, Nat.le_trans (Nat.add_le_add_left (parT_le hab x t) _) h2, Nat.le_trans (Nat.add_le_add_left (parD_le hab x d) _) h3⟩
theorem out_bin {c : Nat} {p q q2 : Pst} {op : Int} {x y : Ex} {lvl a b : Int} (h1 : 1 ≤ op) (h2 : op ≤ 11) (ha : asksM op 0 = a) (hb : asksM op 1 = b) (hl : levelM op = lvl) (hx : Out c p a x q) (hy : Out (q.at_ + 1) p b y q2) : Out c p lvl (exOf op [x, y]) q2 := by
  obtain ⟨t, d, p1, p2, p3⟩ := hx
  obtain ⟨u, e, r1, r2, r3⟩ := hy
  refine ⟨_, _, .bin h1 h2 p1 r1, ?_, ?_⟩
  · rw [par_not (show ¬ levelM op < lvl by omega), ha, hb]
    simp only [List.length_append, lnc]
    omega
  · rw [parD_not (show ¬ levelM op < lvl by omega), ha, hb]
    omega
theorem R_out : ∀ (n : Nat) (job : Job) (p : Pst), Good p → VL p → (R n job p).2.e = 0 →
    (∀ l, job = .parse l → Out p.at_ p (lvN l) (R n job p).1 (R n job p).2) ∧
    (∀ l e, job = .loop l e → chn l = true → ∀ c, Out c p (lvN l) e p → Out c p (lvN l) (R n job p).1 (R n job p).2)
  | 0, job, p, hg, hv, he => by
    exfalso
    exact (keeps_fail hg 1 (by decide)).2 he
  | n + 1, .loop l e, p, hg, hv, he => by
    refine ⟨fun _ h => (by cases h), fun l' e' hj hc c ho => ?_⟩
    cases hj
    rw [R] at he ⊢
    generalize hf : (if p.e = 0 then l.signs.find? p.is else none) = f at he ⊢
    cases f with
    | none => exact ho
    | some s =>
      simp only at he ⊢
      split at hf
      · rename_i hpe
        have hi := List.find?_some hf
        have hm := List.mem_of_find?_eq_some hf
        have k1 := keeps_step hg (Pst.is_lt hi) hpe
        have k2 := R_keeps n (.parse l.sub) p.step k1.good
        have k3 := R_keeps n (.loop l (exOf (opOf s) [e, (R n (.parse l.sub) p.step).1])) (R n (.parse l.sub) p.step).2 k2.1.good
        have e2 := keeps_e k3.1 he
        have v2 : VL (R n (.parse l.sub) p.step).2 := by unfold VL; rw [k2.1.l]; exact hv
        obtain ⟨co, c1, c2⟩ := chop_of hc hm
        have o1 := (R_out n (.parse l.sub) p.step k1.good hv e2).1 _ rfl
        have o2 : Out c (R n (.parse l.sub) p.step).2 (lvN l) (exOf (opOf s) [e, (R n (.parse l.sub) p.step).1]) (R n (.parse l.sub) p.step).2 := by
          have := out_bin c1 c2 co.a co.b co.lv ho o1
          obtain ⟨t, d, t1, t2, t3⟩ := this
          exact ⟨t, d, t1, t2, by rw [k2.1.deep]; exact t3⟩
        obtain ⟨t, d, t1, t2, t3⟩ := (R_out n (.loop l _) (R n (.parse l.sub) p.step).2 k2.1.good v2 he).2 l _ rfl hc c o2
        exact ⟨t, d, t1, t2, by rw [k2.1.deep] at t3; exact t3⟩
      · cases hf
  | n + 1, .parse .not, p, hg, hv, he => by
    refine ⟨fun l hl => ?_, fun _ _ h => (by cases h)⟩
    cases hl
    rw [R] at he ⊢
    by_cases hi : p.is bNot = true
    · rw [if_pos hi] at he ⊢
      have hd := down_good hg (Pst.is_e hi)
      have hk := keeps_take hd.1 bNot
      have hr := R_keeps n (.parse .not) (p.down.take bNot) hk.good
      have he1 : (R n (.parse .not) (p.down.take bNot)).2.e = 0 := he
      obtain ⟨hd1, hd2⟩ := down_e hi (keeps_e hr.1 he1)
      have hv1 : VL (p.down.take bNot) := by rw [hd2]; exact hv
      obtain ⟨t, d, t1, t2, t3⟩ := (R_out n (.parse .not) (p.down.take bNot) hk.good hv1 he1).1 _ rfl
      refine ⟨_, _, .not t1, ?_, ?_⟩
      · rw [par_not (show ¬ levelM 12 < 3 by decide)]
        have : (p.down.take bNot).at_ = p.at_ + 1 := by rw [hd2]
        show p.at_ + (wordT bNot :: parT 3 _ t).length ≤ (R n (.parse .not) (p.down.take bNot)).2.at_
        rw [this] at t2
        rw [lnc]
        simp only [lvN] at t2
        omega
      · rw [parD_not (show ¬ levelM 12 < 3 by decide)]
        have : (p.down.take bNot).deep = p.deep + 1 := by rw [hd2]
        rw [this] at t3
        simp only [lvN] at t3
        omega
    · rw [if_neg hi] at he ⊢
      exact ((R_out n (.parse .test) p hg hv he).1 _ rfl).weak (by decide)
  | n + 1, .parse .test, p, hg, hv, he => by
    refine ⟨fun l hl => ?_, fun _ _ h => (by cases h)⟩
    cases hl
    have hr := R_keeps n (.parse .sum) p hg
    have ho := fun he => (R_out n (.parse .sum) p hg hv he).1 _ rfl
    rw [R] at he ⊢
    generalize R n (.parse .sum) p = r at hr ho he ⊢
    have vr : VL r.2 := by unfold VL; rw [hr.1.l]; exact hv
    cases hf : cmps.find? r.2.is with
    | some s =>
      rw [hf] at he
      simp only at he ⊢
      have hi := List.find?_some hf
      have h1 := keeps_step hr.1.good (Pst.is_lt hi) (Pst.is_e hi)
      obtain ⟨co, c1, c2⟩ := cmp_of (List.mem_of_find?_eq_some hf)
      have o2 := (R_out n (.parse .sum) r.2.step h1.good vr he).1 _ rfl
      have e3 : r.2.step.deep = p.deep := hr.1.deep
      refine out_bin (a := 5) (b := 5) c1 c2 co.a co.b co.l (ho (Pst.is_e hi)) ?_
      obtain ⟨t, d, t1, t2, t3⟩ := o2
      exact ⟨t, d, t1, t2, by rw [← e3]; exact t3⟩
    | none =>
      rw [hf] at he
      simp only at he ⊢
      by_cases hi : r.2.is bIs = true
      · rw [if_pos hi] at he ⊢
        obtain ⟨t, d, t1, t2, t3⟩ := ho (Pst.is_e hi)
        simp only [lvN] at t2 t3
        by_cases hn : r.2.step.is bNot = true
        · rw [take_e hn] at he ⊢
          rw [if_pos hn]
          obtain ⟨_, m2⟩ := must_e he
          refine ⟨_, _, .nnl t1, ?_, ?_⟩
          · rw [par_not (show ¬ levelM 14 < 4 by decide)]
            simp only [m2, List.length_append, lnc, lnn]
            show _ ≤ r.2.at_ + 1 + 1 + 1
            omega
          · rw [parD_not (show ¬ levelM 14 < 4 by decide)]; exact t3
        · have hn' : r.2.step.take bNot = r.2.step := if_neg hn
          rw [hn'] at he ⊢
          rw [if_neg hn]
          obtain ⟨_, m2⟩ := must_e he
          refine ⟨_, _, .isn t1, ?_, ?_⟩
          · rw [par_not (show ¬ levelM 13 < 4 by decide)]
            simp only [m2, List.length_append, lnc, lnn]
            show _ ≤ r.2.at_ + 1 + 1
            omega
          · rw [parD_not (show ¬ levelM 13 < 4 by decide)]; exact t3
      · rw [if_neg hi] at he ⊢
        exact (ho he).weak (by decide)
  | n + 1, .parse .atom, p, hg, hv, he => by
    refine ⟨fun l hl => ?_, fun _ _ h => (by cases h)⟩
    cases hl
    have hvt := tok_vt hv
    rw [R] at he ⊢
    by_cases h3 : p.tok.kind = 3
    · rw [if_pos h3] at he ⊢
      refine ⟨_, _, .int (hvt.lo h3) (hvt.hi h3), ?_, ?_⟩
      · rw [par_not (show ¬ levelM 16 < 7 by decide)]; exact ler _
      · rw [parD_not (show ¬ levelM 16 < 7 by decide)]; exact hg.dp (Pst.tok_e (by rw [h3]; decide))
    · rw [if_neg h3] at he ⊢
      by_cases h4 : p.tok.kind = 4
      · rw [if_pos h4] at he ⊢
        refine ⟨_, _, .txt (hvt.txt h4), ?_, ?_⟩
        · rw [par_not (show ¬ levelM 16 < 7 by decide)]; exact ler _
        · rw [parD_not (show ¬ levelM 16 < 7 by decide)]; exact hg.dp (Pst.tok_e (by rw [h4]; decide))
      · rw [if_neg h4] at he ⊢
        by_cases h5 : p.is bNull = true
        · rw [if_pos h5] at he ⊢
          refine ⟨_, _, .null, ?_, ?_⟩
          · rw [par_not (show ¬ levelM 16 < 7 by decide)]; exact ler _
          · rw [parD_not (show ¬ levelM 16 < 7 by decide)]; exact hg.dp (Pst.is_e h5)
        · rw [if_neg h5] at he ⊢
          by_cases hi : p.is bOpen = true
          · rw [if_pos hi] at he ⊢
            have hd := down_good hg (Pst.is_e hi)
            have hk := keeps_take hd.1 bOpen
            have hr := R_keeps n (.parse .or) (p.down.take bOpen) hk.good
            have he0 : ((R n (.parse .or) (p.down.take bOpen)).2.must bClose).e = 0 := he
            obtain ⟨m1, m2⟩ := must_e he0
            have he1 : (R n (.parse .or) (p.down.take bOpen)).2.e = 0 := Pst.is_e m1
            obtain ⟨hd1, hd2⟩ := down_e hi (keeps_e hr.1 he1)
            have hv1 : VL (p.down.take bOpen) := by rw [hd2]; exact hv
            obtain ⟨t, d, t1, t2, t3⟩ := (R_out n (.parse .or) (p.down.take bOpen) hk.good hv1 he1).1 _ rfl
            have e1 : (p.down.take bOpen).at_ = p.at_ + 1 := by rw [hd2]
            have e2 : (p.down.take bOpen).deep = p.deep + 1 := by rw [hd2]
            rw [e1] at t2
            rw [e2] at t3
            have l1 : t.length ≤ (parT (lvN .or) (R n (.parse .or) (p.down.take bOpen)).1 t).length := by unfold parT; split <;> simp; omega
            have l2 : d ≤ parD (lvN .or) (R n (.parse .or) (p.down.take bOpen)).1 d := by unfold parD; split <;> omega
            have l3 := parT_up 7 (R n (.parse .or) (p.down.take bOpen)).1 t
            have l4 := parD_up 7 (R n (.parse .or) (p.down.take bOpen)).1 d
            refine ⟨t, d, t1, ?_, ?_⟩
            · show p.at_ + (parT 7 (R n (.parse .or) (p.down.take bOpen)).1 t).length ≤ ((R n (.parse .or) (p.down.take bOpen)).2.must bClose).at_
              rw [m2]
              show _ ≤ (R n (.parse .or) (p.down.take bOpen)).2.at_ + 1
              omega
            · show p.deep + parD 7 (R n (.parse .or) (p.down.take bOpen)).1 d ≤ 50
              omega
          · rw [if_neg hi] at he ⊢
            unfold Pst.col at he ⊢
            by_cases hdot : p.name.2.is ⟨#[46]⟩ = true
            · rw [if_pos hdot] at he ⊢
              obtain ⟨n1, n2⟩ := name_e (Pst.is_e hdot)
              rw [n2] at he ⊢
              simp only at he ⊢
              obtain ⟨n3, n4⟩ := name_e he
              rw [n4]
              have hv2 : VTok p.step.step.tok := tok_vt (p := p.step.step) hv
              refine ⟨_, _, .col (hvt.name n1) (hv2.name n3), ?_, ?_⟩
              · rw [par_not (show ¬ levelM 15 < 7 by decide)]; exact ler _
              · rw [parD_not (show ¬ levelM 15 < 7 by decide)]; exact hg.dp (Pst.tok_e (by rw [n1]; decide))
            · rw [if_neg hdot] at he ⊢
              obtain ⟨n1, n2⟩ := name_e he
              rw [n2]
              refine ⟨_, _, .col0 (hvt.name n1), ?_, ?_⟩
              · rw [par_not (show ¬ levelM 15 < 7 by decide)]; exact ler _
              · rw [parD_not (show ¬ levelM 15 < 7 by decide)]; exact hg.dp (Pst.tok_e (by rw [n1]; decide))
  | n + 1, .parse .or, p, hg, hv, he => ⟨fun l hl => by
      cases hl
      have k1 := R_keeps n (.parse (Lv.sub .or)) p hg
      have k2 := R_keeps n (.loop .or (R n (.parse (Lv.sub .or)) p).1) (R n (.parse (Lv.sub .or)) p).2 k1.1.good
      have v1 : VL (R n (.parse (Lv.sub .or)) p).2 := by unfold VL; rw [k1.1.l]; exact hv
      obtain ⟨t, d, t1, t2, t3⟩ := ((R_out n (.parse (Lv.sub .or)) p hg hv (keeps_e k2.1 he)).1 _ rfl).weak (a := lvN .or) (by decide)
      obtain ⟨u, e, u1, u2, u3⟩ := (R_out n (.loop .or (R n (.parse (Lv.sub .or)) p).1) (R n (.parse (Lv.sub .or)) p).2 k1.1.good v1 he).2 _ _ rfl rfl p.at_ ⟨t, d, t1, t2, by rw [k1.1.deep]; exact t3⟩
      exact ⟨u, e, u1, u2, by rw [k1.1.deep] at u3; exact u3⟩, fun _ _ h => (by cases h)⟩
  | n + 1, .parse .and, p, hg, hv, he => ⟨fun l hl => by
      cases hl
      have k1 := R_keeps n (.parse (Lv.sub .and)) p hg
      have k2 := R_keeps n (.loop .and (R n (.parse (Lv.sub .and)) p).1) (R n (.parse (Lv.sub .and)) p).2 k1.1.good
      have v1 : VL (R n (.parse (Lv.sub .and)) p).2 := by unfold VL; rw [k1.1.l]; exact hv
      obtain ⟨t, d, t1, t2, t3⟩ := ((R_out n (.parse (Lv.sub .and)) p hg hv (keeps_e k2.1 he)).1 _ rfl).weak (a := lvN .and) (by decide)
      obtain ⟨u, e, u1, u2, u3⟩ := (R_out n (.loop .and (R n (.parse (Lv.sub .and)) p).1) (R n (.parse (Lv.sub .and)) p).2 k1.1.good v1 he).2 _ _ rfl rfl p.at_ ⟨t, d, t1, t2, by rw [k1.1.deep]; exact t3⟩
      exact ⟨u, e, u1, u2, by rw [k1.1.deep] at u3; exact u3⟩, fun _ _ h => (by cases h)⟩
  | n + 1, .parse .sum, p, hg, hv, he => ⟨fun l hl => by
      cases hl
      have k1 := R_keeps n (.parse (Lv.sub .sum)) p hg
      have k2 := R_keeps n (.loop .sum (R n (.parse (Lv.sub .sum)) p).1) (R n (.parse (Lv.sub .sum)) p).2 k1.1.good
      have v1 : VL (R n (.parse (Lv.sub .sum)) p).2 := by unfold VL; rw [k1.1.l]; exact hv
      obtain ⟨t, d, t1, t2, t3⟩ := ((R_out n (.parse (Lv.sub .sum)) p hg hv (keeps_e k2.1 he)).1 _ rfl).weak (a := lvN .sum) (by decide)
      obtain ⟨u, e, u1, u2, u3⟩ := (R_out n (.loop .sum (R n (.parse (Lv.sub .sum)) p).1) (R n (.parse (Lv.sub .sum)) p).2 k1.1.good v1 he).2 _ _ rfl rfl p.at_ ⟨t, d, t1, t2, by rw [k1.1.deep]; exact t3⟩
      exact ⟨u, e, u1, u2, by rw [k1.1.deep] at u3; exact u3⟩, fun _ _ h => (by cases h)⟩
  | n + 1, .parse .prod, p, hg, hv, he => ⟨fun l hl => by
      cases hl
      have k1 := R_keeps n (.parse (Lv.sub .prod)) p hg
      have k2 := R_keeps n (.loop .prod (R n (.parse (Lv.sub .prod)) p).1) (R n (.parse (Lv.sub .prod)) p).2 k1.1.good
      have v1 : VL (R n (.parse (Lv.sub .prod)) p).2 := by unfold VL; rw [k1.1.l]; exact hv
      obtain ⟨t, d, t1, t2, t3⟩ := ((R_out n (.parse (Lv.sub .prod)) p hg hv (keeps_e k2.1 he)).1 _ rfl).weak (a := lvN .prod) (by decide)
      obtain ⟨u, e, u1, u2, u3⟩ := (R_out n (.loop .prod (R n (.parse (Lv.sub .prod)) p).1) (R n (.parse (Lv.sub .prod)) p).2 k1.1.good v1 he).2 _ _ rfl rfl p.at_ ⟨t, d, t1, t2, by rw [k1.1.deep]; exact t3⟩
      exact ⟨u, e, u1, u2, by rw [k1.1.deep] at u3; exact u3⟩, fun _ _ h => (by cases h)⟩

end Go.Par

namespace Go.Par
open Go Go.Am Go.Proofs Go.RowKit
set_option linter.unusedVariables false
set_option linter.unusedSimpArgs false

/-! A printed expression is cut into the tokens it was printed from -/
theorem ba_size (s : ByteArray) : s.data.toList.length = s.size := by rw [Array.length_toList]; rfl
def At (s : ByteArray) (a : Nat) (l : List UInt8) : Prop := s.data.toList.drop a = l
theorem At.byte {s : ByteArray} {a : Nat} {c : UInt8} {l : List UInt8} (h : At s a (c :: l)) : bAt s a = c ∧ a < s.size ∧ At s (a + 1) l := by
  have h0 : s.data.toList[a]? = some c := by
    have := congrArg (·[0]?) h
    simpa using this
  refine ⟨by unfold bAt; rw [← Array.getElem?_toList, h0]; rfl, ?_, ?_⟩
  · have := (List.getElem?_eq_some_iff.1 h0).1
    rwa [ba_size] at this
  · unfold At at h ⊢
    rw [← List.drop_drop, h]; rfl
theorem At.nil {s : ByteArray} {a : Nat} (h : At s a []) : s.size ≤ a := by
  unfold At at h
  rw [List.drop_eq_nil_iff, ba_size] at h
  exact h
theorem At.len {s : ByteArray} {a : Nat} {l : List UInt8} (h : At s a l) : l.length = s.size - a := by
  rw [← h, List.length_drop, ba_size]
theorem At.app {s : ByteArray} {a : Nat} {w l : List UInt8} (h : At s a (w ++ l)) : At s (a + w.length) l := by
  unfold At at h ⊢
  rw [← List.drop_drop, h]; simp
theorem At.sub {s : ByteArray} {a : Nat} {w l : List UInt8} (h : At s a (w ++ l)) : s.extract a (a + w.length) = ⟨w.toArray⟩ := by
  apply ByteArray.ext
  apply Array.toList_inj.1
  unfold At at h
  simp [ByteArray.data_extract, Array.toList_extract, List.extract_eq_take_drop, h]
theorem At.run {p : Int → Bool} {s : ByteArray} {l : List UInt8} (hl : ∀ c r, l = c :: r → p c.toNat = false) : ∀ {w : List UInt8} {a : Nat}, At s a (w ++ l) → (∀ c ∈ w, p c.toNat = true) → runOf p s a = a + w.length
  | [], a, h, hw => by
    refine runOf_stop ?_
    rintro ⟨h1, h2⟩
    cases l with
    | nil => have := h.nil; omega
    | cons c r =>
      rw [(At.byte (l := r) h).1, hl c r rfl] at h2
      cases h2
  | c :: w, a, h, hw => by
    obtain ⟨h1, h2, h3⟩ := At.byte (l := w ++ l) h
    rw [runOf_go h2 (by rw [h1]; exact hw c (by simp)), At.run hl (w := w) h3 (fun d hd => hw d (by simp [hd])), lnc]
    omega
theorem At.pre {s : ByteArray} {i : Nat} {l : List UInt8} (h : At s i l) (hi : i ≤ s.size) (w : ByteArray) : matchAt s i w = w.data.toList.isPrefixOf l := by
  unfold matchAt
  rw [Bool.eq_iff_iff, dtt, List.isPrefixOf_iff_prefix]
  have hw : w.size = w.data.toList.length := (ba_size w).symm
  constructor
  · rintro ⟨h1, h2⟩
    have e : w.data.toList = l.take w.size := by
      conv => lhs; rw [← h2]
      unfold At at h
      simp [ByteArray.data_extract, Array.toList_extract, List.extract_eq_take_drop, h]
    rw [e]
    exact List.take_prefix _ _
  · rintro ⟨r, hr⟩
    subst hr
    have h1 := h.sub
    have h2 := h.len
    rw [List.length_append] at h2
    rw [← hw] at h1 h2
    exact ⟨by omega, h1⟩
/-- What may follow a token that could go on. -/
def sepH (l : List UInt8) : Prop := ∀ c r, l = c :: r → c = 32 ∨ c = 40 ∨ c = 41 ∨ c = 44 ∨ c = 46
theorem sepH_nil : sepH [] := fun c r h => by cases h
theorem sepH_cons {c : UInt8} {l : List UInt8} (h : c = 32 ∨ c = 40 ∨ c = 41 ∨ c = 44 ∨ c = 46) : sepH (c :: l) := fun d r e => by cases e; exact h
theorem sepH.of {l : List UInt8} (h : sepH l) (f : UInt8 → Prop) (hf : f 32 ∧ f 40 ∧ f 41 ∧ f 44 ∧ f 46) : ∀ c r, l = c :: r → f c := fun c r e => by
  rcases h c r e with rfl | rfl | rfl | rfl | rfl
  · exact hf.1
  · exact hf.2.1
  · exact hf.2.2.1
  · exact hf.2.2.2.1
  · exact hf.2.2.2.2
inductive TkOk : Tk → Prop where
  | name {s : ByteArray} (h : nameOk s) : TkOk (nameT s)
  | word {s : ByteArray} (h : isWord s = true) : TkOk (wordT s)
  | num {n : Int} (h0 : 0 ≤ n) (h1 : n ≤ 9223372036854775807) : TkOk ⟨3, itoaM n, n⟩
  | txt {s : ByteArray} (h : s.size ≤ 65536) : TkOk ⟨4, s, 0⟩
  | sign {s : ByteArray} (h : s ∈ signL) : TkOk ⟨5, s, 0⟩
def Tk.bytes (k : Tk) : List UInt8 := if k.kd = 4 then 39 :: (quoteL k.tx.data.toList ++ [39]) else k.tx.data.toList
/-- A sign that nothing can follow wrongly. -/
def Tk.free (k : Tk) : Prop := k.kd = 5 ∧ (k.tx = bOpen ∨ k.tx = bClose ∨ k.tx = ⟨#[46]⟩ ∨ k.tx = ⟨#[44]⟩ ∨ k.tx = ⟨#[42]⟩)
theorem ba_list (s : ByteArray) : (⟨s.data.toList.toArray⟩ : ByteArray) = s := by apply ByteArray.ext; simp
theorem ba_ne {s : ByteArray} (h : 0 < s.size) : ∃ c l, s.data.toList = c :: l ∧ bAt s 0 = c := by
  cases hl : s.data.toList with
  | nil =>
    have : s.size = 0 := by rw [← ba_size, hl]; rfl
    omega
  | cons c l =>
    exact ⟨c, l, rfl, (At.byte (s := s) (a := 0) (l := l) (by unfold At; simpa using hl)).1⟩
theorem ba_all {s : ByteArray} {f : Int → Bool} (h : ∀ j, j < s.size → f (bAt s j).toNat = true) : ∀ c ∈ s.data.toList, f c.toNat = true := fun c hc => by
  obtain ⟨j, hj, e⟩ := List.mem_iff_getElem.1 hc
  have h1 := h j (by rw [← ba_size]; exact hj)
  have : bAt s j = c := by
    unfold bAt
    rw [← Array.getElem?_toList, List.getElem?_eq_getElem hj, e]; rfl
  rwa [this] at h1
theorem word_ok {s : ByteArray} (h : isWord s = true) : 0 < s.size ∧ s.size ≤ 32 ∧ isLetter (bAt s 0).toNat = true ∧ ∀ c ∈ s.data.toList, nmc c.toNat = true := by
  have hm : s ∈ words := by
    unfold isWord at h
    obtain ⟨w, hw, e⟩ := List.any_eq_true.1 h
    rw [dtt] at e
    rw [e]; exact hw
  have hall : (words.all fun s => decide (0 < s.size) && decide (s.size ≤ 32) && isLetter (bAt s 0).toNat && s.data.toList.all fun c => nmc c.toNat) = true := by kernel_rfl
  have := List.all_eq_true.1 hall s hm
  simp only [Bool.and_eq_true, dtt, List.all_eq_true] at this
  exact ⟨this.1.1.1, this.1.1.2, this.1.2, this.2⟩
theorem letter_not {c : UInt8} (h : isLetter c.toNat = true) : isBlank c.toNat = false := by
  unfold isLetter at h
  unfold isBlank
  simp only [Bool.or_eq_true, Bool.and_eq_true, dtt, bqi] at h
  simp only [Bool.or_eq_false_iff, bqf, ne_eq]
  omega
theorem digit_not {c : UInt8} (h : isDigit c.toNat = true) : isBlank c.toNat = false ∧ isLetter c.toNat = false := by
  rw [isDigit_iff] at h
  unfold isBlank isLetter
  simp only [Bool.or_eq_false_iff, Bool.and_eq_false_iff, dff, bqf, ne_eq]
  omega
theorem At.blank {s : ByteArray} {a : Nat} {sp : List UInt8} {c : UInt8} {l : List UInt8} (h : At s a (sp ++ c :: l)) (hs : ∀ c ∈ sp, c = 32) (hc : isBlank c.toNat = false) : runOf isBlank s a = a + sp.length ∧ a + sp.length < s.size ∧ bAt s (a + sp.length) = c ∧ At s (a + sp.length) (c :: l) := by
  have h1 := At.run (p := isBlank) (l := c :: l) (fun d r e => by cases e; exact hc) h (fun d hd => by rw [hs d hd]; rfl)
  have h2 := h.app
  exact ⟨h1, h2.byte.2.1, h2.byte.1, h2⟩
theorem numAt_snoc {s : ByteArray} : ∀ (m i : Nat) (n : Int), numAt s (m + 1) i n = (numAt s m i n).bind fun r => if 10 * r + ((bAt s (i + m)).toNat - 48) > 9223372036854775807 then none else some (10 * r + ((bAt s (i + m)).toNat - 48))
  | 0, i, n => by simp only [numAt, Option.bind_some, adz]
  | m + 1, i, n => by
    rw [numAt]
    conv => rhs; rw [numAt]
    split
    · rfl
    · rw [numAt_snoc m (i + 1), show i + 1 + m = i + (m + 1) by omega]
theorem dig_byte {u : Nat} (h : u < 10) : isDigit ((UInt8.ofNat (48 + u)).toNat : Nat) = true ∧ (((UInt8.ofNat (48 + u)).toNat : Nat) : Int) - 48 = u := by
  have : (UInt8.ofNat (48 + u)).toNat = 48 + u := by simp; omega
  rw [this, isDigit_iff]
  omega
theorem dec_val {s : ByteArray} : ∀ (u i : Nat) (l : List UInt8), (u : Int) ≤ 9223372036854775807 → At s i (Lib.decDigits u ++ l) → numAt s (Lib.decDigits u).length i 0 = some (u : Int) := fun u => by
  induction u using Nat.strongRecOn with
  | ind u ih =>
    intro i l hu h
    by_cases h10 : u < 10
    · rw [Lib.decDigits, dif_pos h10] at h ⊢
      have hb := (At.byte (l := l) h).1
      have hd := (dig_byte h10).2
      rw [List.length_singleton, numAt, hb, if_neg (by omega), numAt]
      congr 1
      omega
    · rw [Lib.decDigits, dif_neg h10] at h ⊢
      rw [List.append_assoc] at h
      have h1 := ih (u / 10) (by omega) i _ (by omega) h
      have hb := (At.byte (l := l) h.app).1
      have hd := (dig_byte (u := u % 10) (by omega)).2
      rw [List.length_append, List.length_singleton, numAt_snoc, h1, Option.bind_some, hb, if_neg (by omega)]
      congr 1
      omega
theorem dec_dig : ∀ (u : Nat), (∀ c ∈ Lib.decDigits u, isDigit c.toNat = true) ∧ Lib.decDigits u ≠ [] := fun u => by
  induction u using Nat.strongRecOn with
  | ind u ih =>
    rw [Lib.decDigits]
    by_cases h10 : u < 10
    · rw [dif_pos h10]
      exact ⟨fun c hc => by rw [List.mem_singleton.1 hc]; exact (dig_byte h10).1, by simp⟩
    · rw [dif_neg h10]
      refine ⟨fun c hc => ?_, by simp⟩
      rcases List.mem_append.1 hc with hc | hc
      · exact (ih (u / 10) (by omega)).1 c hc
      · rw [List.mem_singleton.1 hc]; exact (dig_byte (by omega)).1
theorem txt_at {s : ByteArray} {l : List UInt8} (hl : ∀ c r, l = c :: r → c ≠ 39) : ∀ (w : List UInt8) (n k : Nat) (acc : ByteArray), At s k (quoteL w ++ 39 :: l) → (quoteL w).length < n →
    txt s n k acc = some (⟨(acc.data.toList ++ w).toArray⟩, k + (quoteL w).length + 1)
  | [], n, k, acc, h, hn => by
    obtain ⟨m, rfl⟩ : ∃ m, n = m + 1 := ⟨n - 1, by omega⟩
    obtain ⟨h1, h2, h3⟩ := At.byte (l := l) h
    rw [txt, if_pos h2, if_neg (by simp [h1]), if_neg]
    · simp [quoteL]
    · rintro ⟨h4, h5⟩
      cases l with
      | nil => have := h3.nil; omega
      | cons c r => exact hl c r rfl (by rw [← (At.byte (l := r) h3).1]; exact h5)
  | c :: w, n, k, acc, h, hn => by
    obtain ⟨m, rfl⟩ : ∃ m, n = m + 1 := ⟨n - 1, by omega⟩
    by_cases hc : c = 39
    · subst hc
      have e : quoteL (39 :: w) = 39 :: 39 :: quoteL w := rfl
      rw [e] at h hn ⊢
      obtain ⟨h1, h2, h3⟩ := At.byte (l := 39 :: (quoteL w ++ 39 :: l)) h
      obtain ⟨h4, h5, h6⟩ := At.byte (l := quoteL w ++ 39 :: l) h3
      rw [txt, if_pos h2, if_neg (by simp [h1]), if_pos ⟨h5, h4⟩, txt_at hl w m (k + 2) _ h6 (by simp only [lnc] at hn; omega)]
      simp [ByteArray.push]
      omega
    · have e : quoteL (c :: w) = c :: quoteL w := by simp [quoteL, hc]
      rw [e] at h hn ⊢
      obtain ⟨h1, h2, h3⟩ := At.byte (l := quoteL w ++ 39 :: l) h
      rw [txt, if_pos h2, if_pos (by rw [h1]; exact hc), h1, txt_at hl w m (k + 1) _ h3 (by simp only [lnc] at hn; omega)]
      simp [ByteArray.push]
      omega
theorem sign_at {s w : ByteArray} {i : Nat} {l : List UInt8} (hw : w ∈ signL) (h : At s i (w.data.toList ++ l)) (hi : i ≤ s.size) (hf : (w = bOpen ∨ w = bClose ∨ w = ⟨#[46]⟩ ∨ w = ⟨#[44]⟩ ∨ w = ⟨#[42]⟩) ∨ sepH l) : signM s i = w := by
  have e : signM s i = (signL.find? fun v => v.data.toList.isPrefixOf (w.data.toList ++ l)).getD ⟨#[]⟩ := by
    unfold signM
    congr 2
    funext v
    exact h.pre hi v
  rw [e]
  rcases hf with hf | hf
  · rcases hf with rfl | rfl | rfl | rfl | rfl <;> rfl
  · cases l with
    | nil =>
      simp only [signL, List.mem_cons, List.not_mem_nil, or_false] at hw
      rcases hw with rfl | rfl | rfl | rfl | rfl | rfl | rfl | rfl | rfl | rfl | rfl | rfl | rfl <;> rfl
    | cons c r =>
      simp only [signL, List.mem_cons, List.not_mem_nil, or_false] at hw
      rcases hf c r rfl with rfl | rfl | rfl | rfl | rfl <;> rcases hw with rfl | rfl | rfl | rfl | rfl | rfl | rfl | rfl | rfl | rfl | rfl | rfl | rfl <;> rfl
theorem lex_name {s : ByteArray} {a : Nat} {sp l : List UInt8} {w : ByteArray} (h : At s a (sp ++ w.data.toList ++ l)) (hs : ∀ c ∈ sp, c = 32) (h0 : 0 < w.size) (h32 : w.size ≤ 32) (hl : isLetter (bAt w 0).toNat = true) (hn : ∀ c ∈ w.data.toList, nmc c.toNat = true) (hf : sepH l) :
    oneM s a = (⟨if isWord w then 2 else 1, w, 0, a + sp.length⟩, a + sp.length + w.data.toList.length, 0) := by
  obtain ⟨c, r, e, eb⟩ := ba_ne h0
  rw [eb] at hl
  have h' : At s a (sp ++ c :: (r ++ l)) := by rw [e, List.append_assoc] at h; exact h
  obtain ⟨b1, b2, b3, b4⟩ := h'.blank hs (letter_not hl)
  have b5 : At s (a + sp.length) (w.data.toList ++ l) := by rw [e]; exact b4
  have hr := At.run (p := nmc) (hf.of (fun c => nmc c.toNat = false) (by decide)) b5 hn
  have hx := b5.sub
  rw [ba_list] at hx
  have hlen : w.data.toList.length ≤ 32 := by rw [ba_size]; exact h32
  unfold oneM
  rw [b1, if_neg (by omega), b3, if_pos hl]
  unfold nameM
  rw [hr, if_neg (by omega), hx]
  rfl
theorem one_lex {s : ByteArray} {a : Nat} {sp l : List UInt8} {k : Tk} (hk : TkOk k) (h : At s a (sp ++ k.bytes ++ l)) (hs : ∀ c ∈ sp, c = 32) (hf : k.free ∨ sepH l) :
    ∃ i, oneM s a = (⟨k.kd, k.tx, k.nm, i⟩, a + sp.length + k.bytes.length, 0) := by
  cases hk with
  | name hn =>
    rename_i w
    have hf' : sepH l := hf.resolve_left fun h => by have := h.1; simp at this
    refine ⟨a + sp.length, (lex_name (w := w) h hs hn.1 hn.2.1 hn.2.2.1 (ba_all hn.2.2.2.1) hf').trans ?_⟩
    rw [hn.2.2.2.2]; rfl
  | word hn =>
    rename_i w
    have hf' : sepH l := hf.resolve_left fun h => by have := h.1; simp at this
    obtain ⟨w1, w2, w3, w4⟩ := word_ok hn
    refine ⟨a + sp.length, (lex_name (w := w) h hs w1 w2 w3 w4 hf').trans ?_⟩
    rw [hn]; rfl
  | num h0 h1 =>
    rename_i n
    have hf' : sepH l := hf.resolve_left fun h => by have := h.1; simp at this
    obtain ⟨u, rfl⟩ : ∃ u : Nat, n = u := ⟨n.toNat, by omega⟩
    have eb : (Tk.mk 3 (itoaM (u : Int)) (u : Int)).bytes = Lib.decDigits u := by
      show (itoaM (u : Int)).data.toList = _
      unfold itoaM Lib.itoa
      rw [if_neg (by omega)]
      simp
    have et : itoaM (u : Int) = ⟨(Lib.decDigits u).toArray⟩ := by
      rw [← eb]; exact (ba_list _).symm
    rw [eb] at h ⊢
    obtain ⟨c, r, e⟩ : ∃ c r, Lib.decDigits u = c :: r := by
      cases hd : Lib.decDigits u with
      | nil => exact absurd hd (dec_dig u).2
      | cons c r => exact ⟨c, r, rfl⟩
    have hdc : isDigit c.toNat = true := (dec_dig u).1 c (by rw [e]; simp)
    have h' : At s a (sp ++ c :: (r ++ l)) := by rw [e, List.append_assoc] at h; exact h
    obtain ⟨b1, b2, b3, b4⟩ := h'.blank hs (digit_not hdc).1
    have b5 : At s (a + sp.length) (Lib.decDigits u ++ l) := by rw [e]; exact b4
    have hr := At.run (p := isDigit) (hf'.of (fun c => isDigit c.toNat = false) (by decide)) b5 (dec_dig u).1
    have hx := b5.sub
    have hv := dec_val u _ l h1 b5
    refine ⟨a + sp.length, ?_⟩
    unfold oneM
    rw [b1, if_neg (by omega), b3, if_neg (by rw [(digit_not hdc).2]; decide), if_pos hdc]
    unfold numberM
    rw [hr, show a + sp.length + (Lib.decDigits u).length - (a + sp.length) = (Lib.decDigits u).length by omega, hv, hx]
    simp only
    rw [if_neg, ← et]
    · rfl
    · rintro ⟨h4, h5⟩
      cases l with
      | nil => have := b5.app.nil; omega
      | cons d q =>
        rw [(At.byte (l := q) b5.app).1, hf'.of (fun c => isLetter c.toNat = false) (by decide) d q rfl] at h5
        cases h5
  | txt hn =>
    rename_i w
    have hf' : sepH l := hf.resolve_left fun h => absurd h.1 (by show ¬ (4 : Int) = 5; decide)
    have eb : (Tk.mk 4 w 0).bytes = 39 :: (quoteL w.data.toList ++ [39]) := rfl
    rw [eb] at h ⊢
    have h' : At s a (sp ++ 39 :: (quoteL w.data.toList ++ 39 :: l)) := by simpa using h
    obtain ⟨b1, b2, b3, b4⟩ := h'.blank hs (by decide)
    have b5 := b4.byte.2.2
    have hlen := b5.len
    rw [List.length_append, lnc] at hlen
    have ht := txt_at (hf'.of (fun c => c ≠ 39) (by decide)) w.data.toList s.size _ ⟨#[]⟩ b5 (by omega)
    refine ⟨a + sp.length, ?_⟩
    unfold oneM
    rw [b1, if_neg (by omega), b3, if_neg (by decide), if_neg (by decide), if_pos (by decide)]
    unfold textM
    rw [ht]
    simp only [nap]
    rw [ba_list, if_neg (by omega)]
    unfold errFix
    simp
    omega
  | sign hn =>
    rename_i w
    have eb : (Tk.mk 5 w 0).bytes = w.data.toList := rfl
    rw [eb] at h ⊢
    have hall : (signL.all fun w => decide (0 < w.size) && !isBlank (bAt w 0).toNat && !isLetter (bAt w 0).toNat && !isDigit (bAt w 0).toNat && decide (¬ ((bAt w 0).toNat : Int) = 39)) = true := by kernel_rfl
    have ha := List.all_eq_true.1 hall w hn
    simp only [Bool.and_eq_true, dtt, nt1] at ha
    obtain ⟨⟨⟨⟨a1, a2⟩, a3⟩, a4⟩, a5⟩ := ha
    obtain ⟨c, r, e, ec⟩ := ba_ne a1
    rw [ec] at a2 a3 a4 a5
    have h' : At s a (sp ++ c :: (r ++ l)) := by rw [e, List.append_assoc] at h; exact h
    obtain ⟨b1, b2, b3, b4⟩ := h'.blank hs a2
    have b5 : At s (a + sp.length) (w.data.toList ++ l) := by rw [e]; exact b4
    have hsg := sign_at hn b5 (by omega) (hf.imp (fun h => h.2) id)
    refine ⟨a + sp.length, ?_⟩
    unfold oneM
    rw [b1, if_neg (by omega), b3, if_neg (by rw [a3]; decide), if_neg (by rw [a4]; decide), if_neg a5, hsg, if_neg]
    · rfl
    · intro hh
      rw [hh] at a1
      exact absurd a1 (by decide)
/-- These bytes are cut into these tokens. -/
inductive Wr : List UInt8 → List Tk → Prop where
  | nil : Wr [] []
  | cons {sp l : List UInt8} {k : Tk} {t : List Tk} (hk : TkOk k) (hs : ∀ c ∈ sp, c = 32) (hf : k.free ∨ sepH l) (h : Wr l t) : Wr (sp ++ k.bytes ++ l) (k :: t)
theorem sepH_app {l l' : List UInt8} (h : sepH l) (h' : sepH l') : sepH (l ++ l') := fun c r e => by
  cases l with
  | nil => exact h' c r e
  | cons d l =>
    simp only [cap, List.cons.injEq] at e
    exact h c l (by rw [e.1])
theorem Wr.app {l l' : List UInt8} {t t' : List Tk} (h : Wr l t) (h' : Wr l' t') (hs : sepH l') : Wr (l ++ l') (t ++ t') := by
  induction h with
  | nil => exact h'
  | cons hk hsp hf _ ih =>
    rw [List.append_assoc, cap]
    exact .cons hk hsp (hf.imp id fun h => sepH_app h hs) ih
theorem Wr.sp {l : List UInt8} {k : Tk} {t : List Tk} (h : Wr l (k :: t)) : Wr (32 :: l) (k :: t) := by
  cases h with
  | cons hk hsp hf h =>
    rename_i sp l
    refine Wr.cons (sp := 32 :: sp) hk (fun c hc => ?_) hf h
    rcases List.mem_cons.1 hc with hc | hc
    · exact hc
    · exact hsp c hc
theorem Wr.one {k : Tk} (hk : TkOk k) : Wr k.bytes [k] := by
  have := Wr.cons (sp := []) hk (by simp) (.inr sepH_nil) .nil
  simpa using this
theorem Wr.word {k : Tk} {l : List UInt8} {t : List Tk} (hk : TkOk k) (hs : k.free ∨ sepH l) (h : Wr l t) : Wr (k.bytes ++ l) (k :: t) := by
  have := Wr.cons (sp := []) hk (by simp) hs h
  simpa using this
abbrev endT (i : Nat) : Tok := ⟨0, ⟨#[]⟩, 0, i⟩
theorem all_lex {s : ByteArray} {l : List UInt8} {t : List Tk} (h : Wr l t) : ∀ (n a : Nat) (acc : List Tok), At s a l → a ≤ s.size → t.length < n → (∀ k ∈ t, k.kd ≠ 0) → ∃ ts i, allL s n a acc = (acc ++ ts ++ [endT i], 0) ∧ ts.map Tok.k = t := by
  induction h with
  | nil =>
    intro n a acc h ha hn hk
    obtain ⟨m, rfl⟩ : ∃ m, n = m + 1 := ⟨n - 1, by simp at hn; omega⟩
    have h1 : a = s.size := by have := h.nil; omega
    have hr : runOf isBlank s a = s.size := by rw [runOf_stop (by omega), h1]
    have ho : oneM s a = (endT s.size, s.size, 0) := by unfold oneM; rw [hr, if_pos rfl]
    refine ⟨[], s.size, ?_, rfl⟩
    rw [allL, ho]
    simp
  | cons hk hs hf hw ih =>
    rename_i sp l k t
    intro n a acc h ha hn hkd
    obtain ⟨m, rfl⟩ : ∃ m, n = m + 1 := ⟨n - 1, by simp at hn; omega⟩
    obtain ⟨i, ho⟩ := one_lex hk h hs hf
    have h2 := h.app
    have h3 := h.len
    rw [List.length_append] at h2
    simp only [List.length_append] at h3
    obtain ⟨ts, j, e1, e2⟩ := ih m (a + sp.length + k.bytes.length) (acc ++ [⟨k.kd, k.tx, k.nm, i⟩]) (by rw [Nat.add_assoc]; exact h2) (by
      have := oneM_le (s := s) (a := a) ha
      rw [ho] at this; exact this) (by simp only [lnc] at hn; omega) (fun k' h' => hkd k' (by simp [h']))
    refine ⟨⟨k.kd, k.tx, k.nm, i⟩ :: ts, j, ?_, by simp [e2, Tok.k]⟩
    rw [allL, ho]
    simp only [ne_eq, not_true_eq_false, if_false, if_neg (hkd k (by simp)), e1]
    simp

end Go.Par

namespace Go.Par
open Go Go.Am Go.Proofs Go.RowKit
set_option linter.unusedVariables false
set_option linter.unusedSimpArgs false

/-! Parsed, printed, parsed again -/
theorem l_app (a b : ByteArray) : (a ++ b).data.toList = a.data.toList ++ b.data.toList := by rw [ByteArray.data_append, Array.toList_append]
theorem sg_mem {w : ByteArray} (h : (signL.any fun v => decide (w = v)) = true) : w ∈ signL := by
  obtain ⟨v, hv, e⟩ := List.any_eq_true.1 h
  rw [dtt] at e
  rw [e]; exact hv
theorem wr_par {lvl : Int} {x : Ex} {t : List Tk} (h : Wr x.pr.data.toList t) : Wr (parM lvl x x.pr).data.toList (parT lvl x t) := by
  unfold parM parT
  split
  · rw [l_app, l_app, List.append_assoc]
    refine Wr.word (k := openT) (.sign (sg_mem (by decide))) (.inl ⟨rfl, .inl rfl⟩) ?_
    exact h.app (Wr.one (k := closeT) (.sign (sg_mem (by decide)))) (sepH_cons (by decide))
  · exact h
theorem opT_ok {op : Int} (h1 : 1 ≤ op) (h2 : op ≤ 11) : TkOk (opT op) ∧ (opT op).bytes = (opM op).data.toList ∧ (opT op).kd ≠ 0 ∧ (opM op).size ≤ 3 := by
  obtain ⟨n, rfl⟩ : ∃ n : Nat, op = n := ⟨op.toNat, by omega⟩
  have h1 : 1 ≤ n := by omega
  have : n ≤ 11 := by omega
  match n, h1, this with
  | 1, _, _ | 2, _, _ | 3, _, _ | 4, _, _ | 5, _, _ | 6, _, _ | 7, _, _ | 8, _, _ | 9, _, _ => exact ⟨.sign (sg_mem (by decide)), rfl, by decide, by decide⟩
  | 10, _, _ | 11, _, _ => exact ⟨.word (by decide), rfl, by decide, by decide⟩
theorem par_ne {lvl : Int} {x : Ex} {t : List Tk} (h : t ≠ []) : ∃ k r, parT lvl x t = k :: r := by
  unfold parT
  split
  · exact ⟨_, _, rfl⟩
  · cases t with
    | nil => exact absurd rfl h
    | cons k r => exact ⟨k, r, rfl⟩
theorem wr_sp {l : List UInt8} {t : List Tk} (h : Wr l t) (hn : ∃ k r, t = k :: r) : Wr (32 :: l) t := by
  obtain ⟨k, r, rfl⟩ := hn
  exact h.sp
theorem par_kd {lvl : Int} {x : Ex} {t : List Tk} (h : ∀ k ∈ t, k.kd ≠ 0) : ∀ k ∈ parT lvl x t, k.kd ≠ 0 := by
  unfold parT
  split
  · intro k hk
    simp only [List.mem_cons, List.mem_append, List.not_mem_nil, or_false] at hk
    rcases hk with rfl | hk | rfl
    · decide
    · exact h k hk
    · decide
  · exact h
theorem pt_kd {x : Ex} {t : List Tk} {d : Nat} (h : Pt x t d) : ∀ k ∈ t, k.kd ≠ 0 := by
  induction h with
  | col0 h => intro k hk; rw [List.mem_singleton.1 hk]; show (1 : Int) ≠ 0; decide
  | col ht h =>
    intro k hk
    simp only [List.mem_cons, List.not_mem_nil, or_false] at hk
    rcases hk with rfl | rfl | rfl <;> simp
  | int h0 h1 => intro k hk; rw [List.mem_singleton.1 hk]; show (3 : Int) ≠ 0; decide
  | txt h => intro k hk; rw [List.mem_singleton.1 hk]; show (4 : Int) ≠ 0; decide
  | null => intro k hk; rw [List.mem_singleton.1 hk]; decide
  | not h ih =>
    intro k hk
    rcases List.mem_cons.1 hk with rfl | hk
    · decide
    · exact par_kd ih k hk
  | isn h ih =>
    intro k hk
    rcases List.mem_append.1 hk with hk | hk
    · exact par_kd ih k hk
    · simp only [List.mem_cons, List.not_mem_nil, or_false] at hk
      rcases hk with rfl | rfl <;> decide
  | nnl h ih =>
    intro k hk
    rcases List.mem_append.1 hk with hk | hk
    · exact par_kd ih k hk
    · simp only [List.mem_cons, List.not_mem_nil, or_false] at hk
      rcases hk with rfl | rfl | rfl <;> decide
  | bin h1 h2 hx hy ix iy =>
    intro k hk
    rcases List.mem_append.1 hk with hk | hk
    · exact par_kd ix k hk
    · rcases List.mem_cons.1 hk with rfl | hk
      · exact (opT_ok h1 h2).2.2.1
      · exact par_kd iy k hk
theorem pr_int (v : Val) : (exVal v).pr = valM v := by rw [Ex.pr_eq]; rfl
theorem pr_not (x : Ex) : (exOf 12 [x]).pr = ⟨#[110, 111, 116, 32]⟩ ++ parM 3 x x.pr := by rw [Ex.pr_eq]; rfl
theorem pr_isn (x : Ex) : (exOf 13 [x]).pr = parM 5 x x.pr ++ ⟨#[32, 105, 115, 32, 110, 117, 108, 108]⟩ := by rw [Ex.pr_eq]; rfl
theorem pr_nnl (x : Ex) : (exOf 14 [x]).pr = parM 5 x x.pr ++ ⟨#[32, 105, 115, 32, 110, 111, 116, 32, 110, 117, 108, 108]⟩ := by rw [Ex.pr_eq]; rfl
theorem pr_bin {op : Int} (h1 : 1 ≤ op) (h2 : op ≤ 11) (x y : Ex) : (exOf op [x, y]).pr = parM (asksM op 0) x x.pr ++ ⟨#[32]⟩ ++ opM op ++ ⟨#[32]⟩ ++ parM (asksM op 1) y y.pr := by
  rw [Ex.pr_eq]
  show prOp op bs0 bs0 Val.null x y x.pr y.pr = _
  unfold prOp
  rw [if_neg (by omega), if_neg (by omega), if_neg (by omega), if_neg (by omega), if_neg (by omega), if_neg (by omega), if_neg (by omega), if_pos ⟨h1, h2⟩]
theorem name_ne {s : ByteArray} (h : nameOk s) : s ≠ ⟨#[]⟩ := fun e => by
  have := h.1
  rw [e] at this
  exact absurd this (by decide)
theorem pr_col {tab name : ByteArray} (h : nameOk tab) : (exCol tab name).pr = tab ++ ⟨#[46]⟩ ++ name := by
  rw [Ex.pr_eq]
  show (if tab = ⟨#[]⟩ then name else tab ++ ⟨#[46]⟩ ++ name) = _
  rw [if_neg (name_ne h)]
theorem pr_col0 (name : ByteArray) : (exCol bs0 name).pr = name := by rw [Ex.pr_eq]; rfl
theorem pt_wr {x : Ex} {t : List Tk} {d : Nat} (h : Pt x t d) : Wr x.pr.data.toList t := by
  induction h with
  | col0 h => rw [pr_col0]; exact Wr.one (.name h)
  | col ht h =>
    rw [pr_col ht, l_app, l_app, List.append_assoc]
    refine Wr.word (.name ht) (.inr (sepH_cons (by decide))) ?_
    exact Wr.word (k := dotT) (.sign (sg_mem (by decide))) (.inl ⟨rfl, .inr (.inr (.inl rfl))⟩) (Wr.one (.name h))
  | int h0 h1 => rw [pr_int]; exact Wr.one (.num h0 h1)
  | txt h =>
    rw [pr_int]
    have := Wr.one (.txt h)
    exact this
  | null => rw [pr_int]; exact Wr.one (.word (by decide))
  | not h ih =>
    rename_i x t d
    rw [pr_not, l_app]
    have hp : Wr (32 :: (parM 3 x x.pr).data.toList) (parT 3 x t) := wr_sp (wr_par ih) (par_ne (pt_head h).1)
    exact Wr.word (k := wordT bNot) (.word (by decide)) (.inr (sepH_cons (by decide))) hp
  | isn h ih =>
    rename_i x t d
    rw [pr_isn, l_app]
    refine (wr_par ih).app (t' := [wordT bIs, wordT bNull]) ?_ (sepH_cons (by decide))
    refine Wr.sp ?_
    refine Wr.word (k := wordT bIs) (l := 32 :: (wordT bNull).bytes) (.word (by decide)) (.inr (sepH_cons (by decide))) ?_
    exact (Wr.one (.word (by decide))).sp
  | nnl h ih =>
    rename_i x t d
    rw [pr_nnl, l_app]
    refine (wr_par ih).app (t' := [wordT bIs, wordT bNot, wordT bNull]) ?_ (sepH_cons (by decide))
    refine Wr.sp ?_
    refine Wr.word (k := wordT bIs) (l := 32 :: ((wordT bNot).bytes ++ 32 :: (wordT bNull).bytes)) (.word (by decide)) (.inr (sepH_cons (by decide))) ?_
    refine Wr.sp ?_
    refine Wr.word (k := wordT bNot) (l := 32 :: (wordT bNull).bytes) (.word (by decide)) (.inr (sepH_cons (by decide))) ?_
    exact (Wr.one (.word (by decide))).sp
  | bin h1 h2 hx hy ix iy =>
    rename_i op x y t u d c
    rw [pr_bin h1 h2, l_app, l_app, l_app, l_app]
    simp only [List.append_assoc]
    obtain ⟨o1, o2, o3, o4⟩ := opT_ok h1 h2
    refine (wr_par ix).app ?_ (sepH_cons (by decide))
    refine Wr.sp ?_
    rw [← o2]
    refine Wr.word o1 (.inr (sepH_cons (by decide))) ?_
    exact wr_sp (wr_par iy) (par_ne (pt_head hy).1)
/-! How long it is -/
theorem quoteL_len : ∀ l : List UInt8, (quoteL l).length ≤ 2 * l.length
  | [] => by simp [quoteL]
  | c :: l => by
    have := quoteL_len l
    by_cases hc : c = 39
    · have e : quoteL (c :: l) = 39 :: 39 :: quoteL l := by subst hc; rfl
      rw [e]; simp only [lnc]; omega
    · have e : quoteL (c :: l) = c :: quoteL l := by simp [quoteL, hc]
      rw [e]; simp only [lnc]; omega
theorem dec_len2 : ∀ (k u : Nat), u < 10 ^ (k + 1) → (Lib.decDigits u).length ≤ k + 1
  | 0, u, h => by rw [Lib.decDigits, dif_pos (by simpa using h)]; exact ler _
  | k + 1, u, h => by
    rw [Lib.decDigits]
    split
    · simp
    · have := dec_len2 k (u / 10) (by rw [Nat.pow_succ] at h; omega)
      simp only [List.length_append, List.length_singleton]
      omega
theorem par_size {lvl : Int} {x : Ex} {t : List Tk} (h : x.pr.size ≤ 140000 * t.length) : (parM lvl x x.pr).size ≤ 140000 * (parT lvl x t).length := by
  unfold parM parT
  split
  · rw [ByteArray.size_append, ByteArray.size_append]
    simp only [lnc, List.length_append, lnn]
    show 1 + x.pr.size + 1 ≤ _
    omega
  · exact h
theorem pt_size {x : Ex} {t : List Tk} {d : Nat} (h : Pt x t d) : x.pr.size ≤ 140000 * t.length := by
  induction h with
  | col0 h => rw [pr_col0]; have := h.2.1; simp only [lnc, lnn]; omega
  | col ht h =>
    rw [pr_col ht, ByteArray.size_append, ByteArray.size_append]
    have a := h.2.1
    have b := ht.2.1
    simp only [lnc, lnn]
    show _ + 1 + _ ≤ _
    omega
  | int h0 h1 =>
    rename_i n
    rw [pr_int]
    obtain ⟨u, rfl⟩ : ∃ u : Nat, n = u := ⟨n.toNat, by omega⟩
    show (itoaM (u : Int)).size ≤ _
    have := dec_len2 19 u (by omega)
    rw [← ba_size]
    unfold itoaM Lib.itoa
    rw [if_neg (by omega)]
    simp only [Int.toNat_natCast, lnc, lnn]
    omega
  | txt h =>
    rename_i s
    rw [pr_int]
    show (quoteM s).size ≤ _
    rw [← ba_size]
    have := quoteL_len s.data.toList
    rw [ba_size] at this
    show (39 :: (quoteL s.data.toList ++ [39])).length ≤ _
    simp only [lnc, List.length_append, lnn]
    omega
  | null => rw [pr_int]; decide
  | not h ih =>
    rw [pr_not, ByteArray.size_append]
    have := par_size (lvl := 3) ih
    simp only [lnc]
    show 4 + _ ≤ _
    omega
  | isn h ih =>
    rw [pr_isn, ByteArray.size_append]
    have := par_size (lvl := 5) ih
    simp only [List.length_append, lnc, lnn]
    show _ + 8 ≤ _
    omega
  | nnl h ih =>
    rw [pr_nnl, ByteArray.size_append]
    have := par_size (lvl := 5) ih
    simp only [List.length_append, lnc, lnn]
    show _ + 12 ≤ _
    omega
  | bin h1 h2 hx hy ix iy =>
    rename_i op x y t u d c
    rw [pr_bin h1 h2]
    simp only [ByteArray.size_append, List.length_append, lnc]
    have a := par_size (lvl := asksM op 0) ix
    have b := par_size (lvl := asksM op 1) iy
    have := (opT_ok h1 h2).2.2.2
    show _ + 1 + _ + 1 + _ ≤ _
    omega
theorem q63 : (⟨#[63]⟩ : ByteArray).size ≤ 1000000000 := by decide
theorem z63 : bs0.size ≤ 1000000000 := by decide
theorem prtree_leaf {op : Int} {tab name : ByteArray} {v : Val} (h1 : tab.size ≤ 1000000000) (h2 : name.size ≤ 1000000000) (h3 : -9223372036854775808 ≤ v.i) (h4 : v.i ≤ 9223372036854775807) (h5 : v.s.size ≤ 1000000000) : PrTree (.mk op tab name 0 0 v []) :=
  .mk ⟨h1, h2, h3, h4, h5, q63, q63, by show (0 : Nat) ≤ _; omega⟩ (fun x hx => by cases hx)
theorem prtree_one {op : Int} {x : Ex} (h : PrTree x) (hx : x.pr.size ≤ 1000000000) : PrTree (exOf op [x]) :=
  .mk ⟨z63, z63, (by show (-9223372036854775808 : Int) ≤ 0; decide), (by show (0 : Int) ≤ 9223372036854775807; decide), z63, hx, q63, by show (1 : Nat) ≤ _; omega⟩ (fun y hy => by rw [List.mem_singleton.1 hy]; exact h)
theorem prtree_two {op : Int} {x y : Ex} (h : PrTree x) (hx : x.pr.size ≤ 1000000000) (h' : PrTree y) (hy : y.pr.size ≤ 1000000000) : PrTree (exOf op [x, y]) :=
  .mk ⟨z63, z63, (by show (-9223372036854775808 : Int) ≤ 0; decide), (by show (0 : Int) ≤ 9223372036854775807; decide), z63, hx, hy, by show (2 : Nat) ≤ _; omega⟩ (fun z hz => by
    simp only [Ex.l, List.mem_cons, List.not_mem_nil, or_false] at hz
    rcases hz with rfl | rfl
    · exact h
    · exact h')
theorem par_len {lvl : Int} {x : Ex} {t : List Tk} : t.length ≤ (parT lvl x t).length := by unfold parT; split <;> simp; omega
theorem pt_prtree {x : Ex} {t : List Tk} {d : Nat} (h : Pt x t d) (hl : t.length ≤ 1000) : PrTree x := by
  induction h with
  | col0 h => exact prtree_leaf (by decide) (by have := h.2.1; omega) (by decide) (by decide) (by decide)
  | col ht h => exact prtree_leaf (by have := ht.2.1; omega) (by have := h.2.1; omega) (by decide) (by decide) (by decide)
  | int h0 h1 => exact prtree_leaf (by decide) (by decide) (by simp only; omega) h1 z63
  | txt h => exact prtree_leaf z63 z63 (by show (-9223372036854775808 : Int) ≤ 0; decide) (by show (0 : Int) ≤ 9223372036854775807; decide) (by simp only; omega)
  | null => exact prtree_leaf (by decide) (by decide) (by decide) (by decide) (by decide)
  | not h ih =>
    rename_i x t d
    have := par_len (lvl := 3) (x := x) (t := t)
    have := pt_size h
    simp only [lnc] at hl
    exact prtree_one (ih (by omega)) (by omega)
  | isn h ih =>
    rename_i x t d
    have := par_len (lvl := 5) (x := x) (t := t)
    have := pt_size h
    simp only [List.length_append, lnc] at hl
    exact prtree_one (ih (by omega)) (by omega)
  | nnl h ih =>
    rename_i x t d
    have := par_len (lvl := 5) (x := x) (t := t)
    have := pt_size h
    simp only [List.length_append, lnc] at hl
    exact prtree_one (ih (by omega)) (by omega)
  | bin h1 h2 hx hy ix iy =>
    rename_i op x y t u d c
    have := par_len (lvl := asksM op 0) (x := x) (t := t)
    have := par_len (lvl := asksM op 1) (x := y) (t := u)
    have := pt_size hx
    have := pt_size hy
    simp only [List.length_append, lnc] at hl
    exact prtree_two (ix (by omega)) (by omega) (iy (by omega)) (by omega)
/-! Never past the end -/
def Nl (p : Pst) : Prop := p.at_ < p.l.length ∧ (p.l.getD (p.l.length - 1) Tok.zero).kind = 0
theorem nl_fail {p : Pst} (h : Nl p) (e : Int) : Nl (p.fail e) := by
  unfold Pst.fail
  split
  · exact h
  · exact h
theorem nl_step {p : Pst} (h : Nl p) (hk : p.tok.kind ≠ 0) : Nl p.step := by
  refine ⟨?_, h.2⟩
  show p.at_ + 1 < p.l.length
  have h1 := h.1
  by_cases hh : p.at_ + 1 < p.l.length
  · exact hh
  · exfalso
    apply hk
    unfold Pst.tok
    split
    · have := h.2
      rwa [show p.l.length - 1 = p.at_ by omega] at this
    · rfl
theorem is_kd {p : Pst} {w : ByteArray} (h : p.is w = true) : p.tok.kind ≠ 0 := by
  simp only [Pst.is, Bool.and_eq_true, Bool.or_eq_true, bqi] at h
  rcases h.1.2 with h | h <;> rw [h] <;> decide
theorem nl_take {p : Pst} (h : Nl p) (w : ByteArray) : Nl (p.take w) := by
  unfold Pst.take
  split
  · exact nl_step h (is_kd (by assumption))
  · exact h
theorem nl_must {p : Pst} (h : Nl p) (w : ByteArray) : Nl (p.must w) := by
  unfold Pst.must
  split
  · exact nl_step h (is_kd (by assumption))
  · exact nl_fail h _
theorem nl_down {p : Pst} (h : Nl p) : Nl p.down := by
  unfold Pst.down
  simp only
  split
  · exact nl_fail (p := { p with deep := p.deep + 1 }) h _
  · exact h
theorem nl_name {p : Pst} (h : Nl p) : Nl p.name.2 := by
  unfold Pst.name
  split
  · exact nl_step h (by rename_i hh; rw [hh]; decide)
  · exact nl_fail h _
theorem nl_col {p : Pst} (h : Nl p) : Nl p.col.2 := by
  unfold Pst.col
  split
  · exact nl_name (nl_step (nl_name h) (is_kd (by assumption)))
  · exact nl_name h
theorem R_nl : ∀ (n : Nat) (job : Job) (p : Pst), Nl p → Nl (R n job p).2
  | 0, job, p, h => nl_fail h 1
  | n + 1, .loop l e, p, h => by
    rw [R]
    split
    · exact h
    · rename_i s hs
      split at hs
      · have hi := List.find?_some hs
        exact R_nl n _ _ (R_nl n _ _ (nl_step h (is_kd hi)))
      · cases hs
  | n + 1, .parse .not, p, h => by
    rw [R]
    split
    · exact R_nl n (.parse .not) _ (nl_take (nl_down h) bNot)
    · exact R_nl n _ _ h
  | n + 1, .parse .test, p, h => by
    rw [R]
    have h1 := R_nl n (.parse .sum) p h
    split
    · rename_i s hs
      exact R_nl n _ _ (nl_step h1 (is_kd (List.find?_some hs)))
    · split
      · exact nl_must (nl_take (nl_step h1 (is_kd (by assumption))) bNot) bNull
      · exact h1
  | n + 1, .parse .atom, p, h => by
    rw [R]
    split
    · exact nl_step h (by rename_i hh; rw [hh]; decide)
    · split
      · exact nl_step h (by rename_i hh; rw [hh]; decide)
      · split
        · exact nl_step h (is_kd (by assumption))
        · split
          · exact nl_must (R_nl n (.parse .or) _ (nl_take (nl_down h) bOpen)) bClose
          · exact nl_col h
  | n + 1, .parse .or, p, h => R_nl n _ _ (R_nl n _ _ h)
  | n + 1, .parse .and, p, h => R_nl n _ _ (R_nl n _ _ h)
  | n + 1, .parse .sum, p, h => R_nl n _ _ (R_nl n _ _ h)
  | n + 1, .parse .prod, p, h => R_nl n _ _ (R_nl n _ _ h)
/-! The tokens of a text -/
theorem errFix_tok {a : Nat} {r : Tok × Nat × Int} (h : VTok r.1) : VTok (errFix a r).1 := by
  unfold errFix
  split
  · exact ⟨fun e => by simp [Tok.zero] at e, fun e => by simp [Tok.zero] at e, fun e => by simp [Tok.zero] at e, fun e => by simp [Tok.zero] at e⟩
  · exact h
theorem vzero : VTok Tok.zero := ⟨fun e => by simp [Tok.zero] at e, fun e => by simp [Tok.zero] at e, fun e => by simp [Tok.zero] at e, fun e => by simp [Tok.zero] at e⟩
theorem one_vt {s : ByteArray} {a : Nat} (ha : a ≤ s.size) : VTok (oneM s a).1 := by
  have hr := runOf_le (p := isBlank) ha
  unfold oneM
  generalize runOf isBlank s a = i at hr ⊢
  split
  · exact ⟨fun e => by simp at e, fun e => by simp at e, fun e => by simp at e, fun e => by simp at e⟩
  · rename_i hne
    have hlt : i < s.size := by omega
    split
    · rename_i hl
      refine errFix_tok ?_
      unfold nameM
      split
      · exact vzero
      · rename_i h32
        have hk := runOf_le (p := nmc) hr
        have hge : i + 1 ≤ runOf nmc s i := by
          rw [runOf_go hlt (by unfold nmc; rw [hl]; rfl)]
          exact runOf_ge
        have hsz : (s.extract i (runOf nmc s i)).size = runOf nmc s i - i := by rw [ByteArray.size_extract, Nat.min_eq_left hk]
        refine ⟨fun e => ?_, fun e => ?_, fun e => ?_, fun e => ?_⟩
        · refine ⟨by show 0 < (s.extract i (runOf nmc s i)).size; omega, by show (s.extract i (runOf nmc s i)).size ≤ 32; omega, ?_, fun j hj => ?_, ?_⟩
          · show isLetter (bAt (s.extract i (runOf nmc s i)) 0).toNat = true
            rw [bAt_extract hk (by omega)]; exact hl
          · show nmc (bAt (s.extract i (runOf nmc s i)) j).toNat = true
            have hj : j < (s.extract i (runOf nmc s i)).size := hj
            rw [bAt_extract hk (by omega)]
            exact runOf_all (i := i) (by omega) (by omega)
          · show isWord (s.extract i (runOf nmc s i)) = false
            cases hw : isWord (s.extract i (runOf nmc s i)) with
            | false => rfl
            | true => simp [hw] at e
        · simp only at e; split at e <;> cases e
        · simp only at e; split at e <;> cases e
        · simp only at e; split at e <;> cases e
    · split
      · rename_i hd
        refine errFix_tok ?_
        unfold numberM
        split
        · exact vzero
        · rename_i n hn
          split
          · exact vzero
          · have hb := numAt_le (s := s) (i := i) (fun j a b => runOf_all (p := isDigit) (i := i) a (by have := runOf_ge (p := isDigit) (s := s) (i := i); omega)) (by decide) (by decide) hn
            exact ⟨fun e => by simp at e, fun _ => hb.1, fun _ => hb.2, fun e => by simp at e⟩
      · split
        · refine errFix_tok ?_
          unfold textM
          split
          · exact vzero
          · split
            · exact vzero
            · exact ⟨fun e => by simp at e, fun e => by simp at e, fun e => by simp at e, fun _ => by rename_i hh; simp only; omega⟩
        · split
          · exact vzero
          · exact ⟨fun e => by simp at e, fun e => by simp at e, fun e => by simp at e, fun e => by simp at e⟩
theorem all_vt {s : ByteArray} : ∀ (n a : Nat) (acc : List Tok), a ≤ s.size → (∀ t ∈ acc, VTok t) → ∀ t ∈ (allL s n a acc).1, VTok t
  | 0, a, acc, ha, h => fun t ht => by simp [allL] at ht
  | n + 1, a, acc, ha, h => by
    have h' : ∀ t ∈ acc ++ [(oneM s a).1], VTok t := fun t ht => by
      rcases List.mem_append.1 ht with ht | ht
      · exact h t ht
      · rw [List.mem_singleton.1 ht]; exact one_vt ha
    rw [allL]
    split
    · intro t ht; cases ht
    · split
      · exact h'
      · exact all_vt n _ _ (oneM_le ha) h'
theorem all_end {s : ByteArray} : ∀ (n a : Nat) (acc : List Tok), (allL s n a acc).2 = 0 → 0 < (allL s n a acc).1.length ∧ ((allL s n a acc).1.getD ((allL s n a acc).1.length - 1) Tok.zero).kind = 0
  | 0, a, acc, h => by simp [allL] at h
  | n + 1, a, acc, h => by
    rw [allL] at h ⊢
    split
    · rename_i he; rw [if_pos he] at h; exact absurd h he
    · rename_i he
      rw [if_neg he] at h
      split
      · rename_i hk
        refine ⟨by simp, ?_⟩
        simpa [List.getD_eq_getElem?_getD] using hk
      · rename_i hk
        rw [if_neg hk] at h
        exact all_end n _ _ h
theorem fin_e {p : Pst} (h : p.fin.e = 0) : p.e = 0 ∧ p.tok.kind = 0 := by
  unfold Pst.fin at h
  split at h
  · rename_i hh
    unfold Pst.fail at h
    rw [if_pos hh.1] at h
    simp at h
  · rename_i hh
    exact ⟨h, Classical.byContradiction fun hk => hh ⟨h, hk⟩⟩
theorem R_err : ∀ (n : Nat) (p : Pst), Good p → p.e ≠ 0 → (R n (.parse .or) p).2.e ≠ 0 := fun n p hg he h => he (keeps_e (R_keeps n (.parse .or) p hg).1 h)
/-- What a text's parse can be printed as. -/
theorem expr_pt {n : Nat} {s : ByteArray} {x : Ex} (h : exprM n s = (x, 0)) : ∃ t d, Pt x t d ∧ t.length + 1 ≤ 1000 ∧ parD 1 x d ≤ 50 := by
  unfold exprM at h
  split at h
  · rename_i hf
    obtain ⟨h1, h2⟩ := fin_e hf
    have hx : (R n (.parse .or) (p0 s)).1 = x := (Prod.mk.inj h).1
    have hg := p0_good s
    have hk := (R_keeps n (.parse .or) (p0 s) hg).1
    have e0 := keeps_e hk h1
    have hnl : Nl (p0 s) := all_end 1000 0 [] e0
    obtain ⟨t, d, t1, t2, t3⟩ := (R_out n (.parse .or) (p0 s) hg (all_vt 1000 0 [] (Nat.zero_le _) (by simp)) h1).1 .or rfl
    rw [hx] at t1 t2 t3
    have hq := (R_nl n (.parse .or) (p0 s) hnl).1
    rw [hk.l] at hq
    have hlen := hg.ok.len
    have hl := parT_up (lvN .or) x t
    have h0 : (p0 s).deep = 0 := rfl
    have ha : (p0 s).at_ = 0 := rfl
    have l1 : t.length ≤ (parT (lvN .or) x t).length := by unfold parT; split <;> simp; omega
    exact ⟨t, d, t1, by omega, by rw [h0, zad] at t3; exact t3⟩
  · rename_i hf
    exact absurd (Prod.mk.inj h).2 hf
theorem levelM_ge (op : Int) : 1 ≤ levelM op := by
  unfold levelM
  repeat (split; · decide)
  decide
theorem pt_expr {x : Ex} {t : List Tk} {d : Nat} (h : Pt x t d) (hl : t.length + 1 ≤ 1000) (hd : parD 1 x d ≤ 50) : exprM 20007 x.pr = (x, 0) := by
  obtain ⟨ts, i, e1, e2⟩ := all_lex (s := x.pr) (pt_wr h) 1000 0 [] (by unfold At; simp) (Nat.zero_le _) (by omega) (pt_kd h)
  have ea : allM x.pr = (ts ++ [endT i], 0) := by unfold allM; rw [e1]; simp
  have hp : p0 x.pr = ⟨ts ++ [endT i], 0, 0, 0⟩ := by unfold p0; rw [ea]
  have hpt : parT (lvN .or) x t = t := par_not (by have := levelM_ge x.op; simp only [lvN]; omega)
  have htk : toks (p0 x.pr) = parT (lvN .or) x t ++ [⟨0, ⟨#[]⟩, 0⟩] := by
    rw [hpt, hp]
    unfold toks
    simp [e2, Tok.k]
  have he : (p0 x.pr).e = 0 := by rw [hp]
  have hU := (G_all h).1 .or 20007 (p0 x.pr) [⟨0, ⟨#[]⟩, 0⟩] he htk (fun k r e w hw => by cases e; rfl) (by rw [hp]; simpa [lvN] using hd) (by have := p0_mz x.pr; simp only [Lv.rank]; omega)
  rw [hpt] at hU
  have htok : toks ((p0 x.pr).adv t.length) = [⟨0, ⟨#[]⟩, 0⟩] := by rw [hpt] at htk; exact toks_app htk
  have hk0 : ((p0 x.pr).adv t.length).tok.kind = 0 := (tok_kind (p := (p0 x.pr).adv t.length) he htok).1
  have hfin : ((p0 x.pr).adv t.length).fin.e = 0 := by
    unfold Pst.fin
    rw [if_neg (by rw [hk0]; simp)]
    exact he
  unfold exprM
  rw [hU, if_pos hfin]
/-- A parsed expression's text is parsed to the same expression. -/
theorem expr_again {n : Nat} {s : ByteArray} {x : Ex} (h : exprM n s = (x, 0)) : exprM 20007 x.pr = (x, 0) ∧ x.pr.size ≤ 140000000 ∧ PrTree x := by
  obtain ⟨t, d, h1, h2, h3⟩ := expr_pt h
  have := pt_size h1
  exact ⟨pt_expr h1 h2 h3, by omega, pt_prtree h1 (by omega)⟩

end Go.Par
