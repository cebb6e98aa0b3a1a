import Derived.Test.YtihcfphmikebgaaDoorPrt24
namespace Go.Par
open Go Go.Am Go.Proofs Go.RowKit
set_option linter.unusedVariables false
set_option linter.unusedSimpArgs false

/-! A printed expression is parsed again: tokens -/
structure Tk where
  kd : Int
  tx : ByteArray
  nm : Int
def Tok.k (t : Tok) : Tk := ⟨t.kind, t.text, t.num⟩
def toks (p : Pst) : List Tk := (p.l.drop p.at_).map Tok.k
def Pst.adv (p : Pst) (k : Nat) : Pst := { p with at_ := p.at_ + k }
theorem adv_e (p : Pst) (k : Nat) : (p.adv k).e = p.e := rfl
theorem adv_deep (p : Pst) (k : Nat) : (p.adv k).deep = p.deep := rfl
theorem adv_zero (p : Pst) : p.adv 0 = p := rfl
theorem adv_adv (p : Pst) (j k : Nat) : (p.adv j).adv k = p.adv (j + k) := by simp [Pst.adv, Nat.add_assoc]
theorem step_adv (p : Pst) : p.step = p.adv 1 := rfl
theorem toks_adv (p : Pst) (k : Nat) : toks (p.adv k) = (toks p).drop k := by simp [toks, Pst.adv, List.map_drop]
theorem toks_app {p : Pst} {a b : List Tk} (h : toks p = a ++ b) : toks (p.adv a.length) = b := by rw [toks_adv, h]; simp
theorem toks_cons {p : Pst} {k : Tk} {r : List Tk} (h : toks p = k :: r) : toks p.step = r := by rw [step_adv, toks_adv, h]; rfl
theorem toks_len {p : Pst} {k : Tk} {r : List Tk} (h : toks p = k :: r) : p.at_ < p.l.length := by
  have := congrArg List.length h
  simp [toks] at this
  omega
theorem tok_cons {p : Pst} {k : Tk} {r : List Tk} (he : p.e = 0) (h : toks p = k :: r) : p.tok.k = k := by
  have hl := toks_len h
  unfold Pst.tok
  rw [if_pos ⟨he, hl⟩]
  unfold toks at h
  rw [List.drop_eq_getElem_cons hl, mpc] at h
  have := (List.cons.inj h).1
  simpa [List.getD_eq_getElem?_getD, hl] using this
def Tk.is (k : Tk) (s : ByteArray) : Bool := (k.kd == 2 || k.kd == 5) && decide (k.tx = s)
theorem is_cons {p : Pst} {k : Tk} {r : List Tk} (he : p.e = 0) (h : toks p = k :: r) (s : ByteArray) : p.is s = k.is s := by
  have := tok_cons he h
  unfold Pst.is Tk.is
  rw [← this]
  simp [he, Tok.k]
  try rfl
theorem is_nil {p : Pst} (h : toks p = []) (s : ByteArray) : p.is s = false := by
  have hl : p.l.length ≤ p.at_ := by
    have := congrArg List.length h
    simp [toks] at this
    omega
  unfold Pst.is Pst.tok
  rw [if_neg (by omega)]
  simp [Tok.zero]
theorem mz_of {p : Pst} (he : p.e = 0) : mz p = 20 * (toks p).length := by
  unfold mz
  rw [if_pos he]
  simp [toks]
abbrev openT : Tk := ⟨5, bOpen, 0⟩
abbrev closeT : Tk := ⟨5, bClose, 0⟩
abbrev dotT : Tk := ⟨5, ⟨#[46]⟩, 0⟩
abbrev wordT (s : ByteArray) : Tk := ⟨2, s, 0⟩
abbrev nameT (s : ByteArray) : Tk := ⟨1, s, 0⟩
/-- An operator's token. -/
def opT (op : Int) : Tk := ⟨if op = 10 ∨ op = 11 then 2 else 5, opM op, 0⟩
def lvN : Lv → Int
  | .or => 1 | .and => 2 | .not => 3 | .test => 4 | .sum => 5 | .prod => 6 | .atom => 7
def parT (lvl : Int) (x : Ex) (t : List Tk) : List Tk := if levelM x.op < lvl then openT :: (t ++ [closeT]) else t
def parD (lvl : Int) (x : Ex) (d : Nat) : Nat := if levelM x.op < lvl then d + 1 else d
def nameOk (s : ByteArray) : Prop := 0 < s.size ∧ s.size ≤ 32 ∧ isLetter (bAt s 0).toNat = true ∧ (∀ j, j < s.size → nmc (bAt s j).toNat = true) ∧ isWord s = false
/-- e is printed as these tokens; so deep it is parsed. -/
inductive Pt : Ex → List Tk → Nat → Prop where
  | col0 {name : ByteArray} (h : nameOk name) : Pt (exCol bs0 name) [nameT name] 0
  | col {tab name : ByteArray} (ht : nameOk tab) (h : nameOk name) : Pt (exCol tab name) [nameT tab, dotT, nameT name] 0
  | int {n : Int} (h0 : 0 ≤ n) (h1 : n ≤ 9223372036854775807) : Pt (exVal ⟨1, n, bs0⟩) [⟨3, itoaM n, n⟩] 0
  | txt {s : ByteArray} (h : s.size ≤ 65536) : Pt (exVal ⟨2, 0, s⟩) [⟨4, s, 0⟩] 0
  | null : Pt (exVal Val.null) [wordT bNull] 0
  | not {x : Ex} {t : List Tk} {d : Nat} (h : Pt x t d) : Pt (exOf 12 [x]) (wordT bNot :: parT 3 x t) (parD 3 x d + 1)
  | isn {x : Ex} {t : List Tk} {d : Nat} (h : Pt x t d) : Pt (exOf 13 [x]) (parT 5 x t ++ [wordT bIs, wordT bNull]) (parD 5 x d)
  | nnl {x : Ex} {t : List Tk} {d : Nat} (h : Pt x t d) : Pt (exOf 14 [x]) (parT 5 x t ++ [wordT bIs, wordT bNot, wordT bNull]) (parD 5 x d)
  | bin {op : Int} {x y : Ex} {t u : List Tk} {d c : Nat} (h1 : 1 ≤ op) (h2 : op ≤ 11) (hx : Pt x t d) (hy : Pt y u c) :
      Pt (exOf op [x, y]) (parT (asksM op 0) x t ++ opT op :: parT (asksM op 1) y u) (max (parD (asksM op 0) x d) (parD (asksM op 1) y c))
abbrev dotB : ByteArray := ⟨#[46]⟩
/-- What would go on behind a part of a level. -/
def cont : Lv → List ByteArray
  | .atom => [dotB]
  | .prod => ⟨#[42]⟩ :: [dotB]
  | .sum => ⟨#[43]⟩ :: ⟨#[45]⟩ :: ⟨#[42]⟩ :: [dotB]
  | .test => cmps ++ (bIs :: ⟨#[43]⟩ :: ⟨#[45]⟩ :: ⟨#[42]⟩ :: [dotB])
  | .not => cmps ++ (bIs :: ⟨#[43]⟩ :: ⟨#[45]⟩ :: ⟨#[42]⟩ :: [dotB])
  | .and => ⟨#[97, 110, 100]⟩ :: cmps ++ (bIs :: ⟨#[43]⟩ :: ⟨#[45]⟩ :: ⟨#[42]⟩ :: [dotB])
  | .or => ⟨#[111, 114]⟩ :: ⟨#[97, 110, 100]⟩ :: cmps ++ (bIs :: ⟨#[43]⟩ :: ⟨#[45]⟩ :: ⟨#[42]⟩ :: [dotB])
/-- Behind it nothing of these follows. -/
def stp (l : Lv) (rest : List Tk) : Prop := ∀ k r, rest = k :: r → ∀ w ∈ cont l, k.is w = false
theorem stp_is {l : Lv} {p : Pst} {rest : List Tk} (he : p.e = 0) (h : toks p = rest) (hs : stp l rest) {w : ByteArray} (hw : w ∈ cont l) : p.is w = false := by
  cases rest with
  | nil => exact is_nil h w
  | cons k r => rw [is_cons he h]; exact hs k r rfl w hw
theorem stp_sub {l l' : Lv} {rest : List Tk} (hs : stp l rest) (h : ∀ w ∈ cont l', w ∈ cont l) : stp l' rest := fun k r e w hw => hs k r e w (h w hw)
/-- Parsed at a level, the level's own text being next. -/
def UP (x : Ex) (t : List Tk) (d : Nat) (l : Lv) : Prop := ∀ (n : Nat) (p : Pst) (rest : List Tk), p.e = 0 → toks p = parT (lvN l) x t ++ rest → stp l rest → p.deep + parD (lvN l) x d ≤ 50 → mz p + l.rank ≤ n →
  R n (.parse l) p = (x, p.adv (parT (lvN l) x t).length)
def chn : Lv → Bool
  | .or | .and | .sum | .prod => true
  | _ => false
/-- Parsed as the head of a chain. -/
def VP (x : Ex) (t : List Tk) (d : Nat) (l : Lv) : Prop := ∀ (n : Nat) (p : Pst) (rest : List Tk), p.e = 0 → toks p = parT (lvN l) x t ++ rest → stp l.sub rest → p.deep + parD (lvN l) x d ≤ 50 → mz p + l.rank ≤ n →
  ∃ m, mz (p.adv (parT (lvN l) x t).length) < m ∧ R n (.parse l) p = R m (.loop l x) (p.adv (parT (lvN l) x t).length)
theorem mz_adv {p : Pst} {a b : List Tk} (he : p.e = 0) (h : toks p = a ++ b) : mz (p.adv a.length) + 20 * a.length = mz p := by
  rw [mz_of he, mz_of (p := p.adv a.length) he, toks_app h, h, List.length_append]; omega
theorem loop_stop {l : Lv} (hl : chn l = true) {m : Nat} {x : Ex} {p : Pst} {rest : List Tk} (he : p.e = 0) (h : toks p = rest) (hs : stp l rest) (hm : mz p < m) : R m (.loop l x) p = (x, p) := by
  obtain ⟨k, rfl⟩ : ∃ k, m = k + 1 := ⟨m - 1, by omega⟩
  rw [R, if_pos he]
  have : l.signs.find? p.is = none := by
    rw [List.find?_eq_none]
    intro w hw
    have hc : w ∈ cont l := by
      cases l <;> simp_all [Lv.signs, cont, chn]
      rcases hw with rfl | rfl <;> simp
    simp [stp_is he h hs hc]
  rw [this]
theorem vp_up {x : Ex} {t : List Tk} {d : Nat} {l : Lv} (hl : chn l = true) (h : VP x t d l) : UP x t d l := fun n p rest he ht hs hd hn => by
  obtain ⟨m, hm, e⟩ := h n p rest he ht (stp_sub hs (by cases l <;> simp_all [cont, Lv.sub, chn])) hd hn
  rw [e]
  exact loop_stop hl he (toks_app ht) hs hm
theorem head_open {lvl : Int} {x : Ex} {t : List Tk} (h : levelM x.op < lvl) : parT lvl x t = openT :: (t ++ [closeT]) := if_pos h
theorem par_not {lvl : Int} {x : Ex} {t : List Tk} (h : ¬ levelM x.op < lvl) : parT lvl x t = t := if_neg h
def nxt : Lv → Lv
  | .or => .and | .and => .not | .not => .test | .test => .sum | .sum => .prod | .prod => .atom | .atom => .atom
/-- From a level to the one that binds less, the text being the same. -/
theorem lift_chain {x : Ex} {t : List Tk} {d : Nat} {l : Lv} (hl : chn l = true) (h : UP x t d l.sub) (e1 : parT (lvN l) x t = parT (lvN l.sub) x t) (e2 : parD (lvN l) x d = parD (lvN l.sub) x d) : VP x t d l := fun n p rest he ht hs hd hn => by
  have hr : l.sub.rank < l.rank := by cases l <;> simp_all [chn, Lv.sub, Lv.rank]
  obtain ⟨k, rfl⟩ : ∃ k, n = k + 1 := ⟨n - 1, by omega⟩
  have h1 := h k p rest he (by rw [← e1]; exact ht) hs (by rw [← e2]; exact hd) (by omega)
  refine ⟨k, ?_, ?_⟩
  · have := mz_adv he ht
    have hr1 : 1 ≤ l.sub.rank := by cases l <;> simp_all [chn, Lv.sub, Lv.rank]
    omega
  · have : R (k + 1) (.parse l) p = R k (.loop l (R k (.parse l.sub) p).1) (R k (.parse l.sub) p).2 := by cases l <;> simp_all [chn, R]
    rw [this, h1, e1]
theorem lift_test {x : Ex} {t : List Tk} {d : Nat} (h : UP x t d .sum) (e1 : parT 4 x t = parT 5 x t) (e2 : parD 4 x d = parD 5 x d) : UP x t d .test := fun n p rest he ht hs hd hn => by
  obtain ⟨k, rfl⟩ : ∃ k, n = k + 1 := ⟨n - 1, by simp [Lv.rank] at hn; omega⟩
  have h1 := h k p rest he (by simp only [lvN] at ht ⊢; rw [← e1]; exact ht) (stp_sub hs (by simp [cont])) (by simp only [lvN] at hd ⊢; rw [← e2]; exact hd) (by simp only [Lv.rank] at hn ⊢; omega)
  simp only [lvN] at ht h1 ⊢
  rw [R, h1]
  have e3 : toks (p.adv (parT 5 x t).length) = rest := by rw [← e1]; exact toks_app ht
  have : cmps.find? (p.adv (parT 5 x t).length).is = none := by
    rw [List.find?_eq_none]
    intro w hw
    simp [stp_is (p := p.adv (parT 5 x t).length) he e3 hs (w := w) (by simp only [cont, List.mem_append]; exact .inl hw)]
  simp only [this, stp_is (p := p.adv (parT 5 x t).length) he e3 hs (w := bIs) (by simp [cont])]
  rw [e1]; simp
theorem lift_not {x : Ex} {t : List Tk} {d : Nat} (h : UP x t d .test) (e1 : parT 3 x t = parT 4 x t) (e2 : parD 3 x d = parD 4 x d) (hh : ∀ k r, parT 3 x t = k :: r → k.is bNot = false) (hne : parT 3 x t ≠ []) : UP x t d .not := fun n p rest he ht hs hd hn => by
  obtain ⟨k, rfl⟩ : ∃ k, n = k + 1 := ⟨n - 1, by simp [Lv.rank] at hn; omega⟩
  have h1 := h k p rest he (by simp only [lvN] at ht ⊢; rw [← e1]; exact ht) (stp_sub hs (by simp [cont])) (by simp only [lvN] at hd ⊢; rw [← e2]; exact hd) (by simp only [Lv.rank] at hn ⊢; omega)
  simp only [lvN] at ht h1 ⊢
  rw [R]
  have : p.is bNot = false := by
    cases hp : parT 3 x t with
    | nil => exact absurd hp hne
    | cons a r =>
      rw [hp] at ht
      rw [is_cons he ht]
      exact hh a r hp
  rw [this, h1, e1]; simp

end Go.Par
