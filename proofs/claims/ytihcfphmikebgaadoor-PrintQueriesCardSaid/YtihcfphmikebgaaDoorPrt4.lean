import Derived.Test.YtihcfphmikebgaaDoorPrt3
namespace Go.Par
open Go Go.Am Go.Proofs Go.RowKit
set_option linter.unusedVariables false
set_option linter.unusedSimpArgs false

/-- The first place from i on where it is not so. -/
def scan (p : Int → Bool) (s : ByteArray) : Nat → Nat → Nat
  | 0, i => i
  | n + 1, i => if i < s.size ∧ p (bAt s i).toNat = true then scan p s n (i + 1) else i
def runOf (p : Int → Bool) (s : ByteArray) (i : Nat) : Nat := scan p s (s.size - i) i
theorem runOf_go {p : Int → Bool} {s : ByteArray} {i : Nat} (h : i < s.size) (hp : p (bAt s i).toNat = true) : runOf p s i = runOf p s (i + 1) := by
  unfold runOf
  obtain ⟨n, hn⟩ : ∃ n, s.size - i = n + 1 := ⟨s.size - i - 1, by omega⟩
  rw [hn, scan, if_pos ⟨h, hp⟩]
  congr 1; omega
theorem runOf_stop {p : Int → Bool} {s : ByteArray} {i : Nat} (h : ¬ (i < s.size ∧ p (bAt s i).toNat = true)) : runOf p s i = i := by
  unfold runOf
  cases s.size - i with
  | zero => rfl
  | succ n => rw [scan, if_neg h]
theorem scan_ge {p : Int → Bool} {s : ByteArray} : ∀ (n i : Nat), i ≤ scan p s n i ∧ (i ≤ s.size → scan p s n i ≤ s.size)
  | 0, i => ⟨ler _, fun h => h⟩
  | n + 1, i => by
    rw [scan]
    split
    · rename_i h
      have := scan_ge (p := p) (s := s) n (i + 1)
      exact ⟨by omega, fun _ => this.2 (by omega)⟩
    · exact ⟨ler _, fun h => h⟩
theorem runOf_ge {p : Int → Bool} {s : ByteArray} {i : Nat} : i ≤ runOf p s i := (scan_ge _ _).1
theorem runOf_le {p : Int → Bool} {s : ByteArray} {i : Nat} (h : i ≤ s.size) : runOf p s i ≤ s.size := (scan_ge _ _).2 h
/-- The number that stands from i to k; none: too great. -/
def numAt (s : ByteArray) : Nat → Nat → Int → Option Int
  | 0, _, n => some n
  | m + 1, i, n => if 10 * n + ((bAt s i).toNat - 48) > 9223372036854775807 then none else numAt s m (i + 1) (10 * n + ((bAt s i).toNat - 48))
abbrev strRows (l : List ByteArray) : List (List D) := l.map fun s => [.v (.string s)]
def words : List ByteArray := [⟨#[115, 101, 108, 101, 99, 116]⟩, ⟨#[102, 114, 111, 109]⟩, ⟨#[106, 111, 105, 110]⟩, ⟨#[108, 101, 102, 116]⟩, ⟨#[115, 101, 109, 105]⟩, ⟨#[97, 110, 116, 105]⟩, ⟨#[111, 110]⟩, ⟨#[119, 104, 101, 114, 101]⟩, ⟨#[103, 114, 111, 117, 112]⟩, ⟨#[98, 121]⟩, ⟨#[97, 115]⟩, ⟨#[97, 110, 100]⟩, ⟨#[111, 114]⟩, ⟨#[110, 111, 116]⟩, ⟨#[105, 115]⟩, ⟨#[110, 117, 108, 108]⟩, ⟨#[99, 111, 117, 110, 116]⟩, ⟨#[115, 117, 109]⟩, ⟨#[109, 105, 110]⟩, ⟨#[109, 97, 120]⟩]
def isWord (s : ByteArray) : Bool := words.any fun w => decide (s = w)
theorem isWord_alt (s : ByteArray) : isWord s = words.any fun w => decide (w = s) := by
  unfold isWord
  congr 1
  funext w
  exact decide_eq_decide.2 eq_comm
theorem str_at {l : List ByteArray} {j : Int} (h0 : 0 ≤ j) (h : j < l.length) : (strRows l)[j.toNat]? = some [.v (.string (l.getD j.toNat ⟨#[]⟩))] := by
  have : j.toNat < l.length := by omega
  simp [strRows, List.getD_eq_getElem?_getD, this]
theorem str_len {l : List ByteArray} : ∀ r ∈ strRows l, r.length = 1 := by
  intro r hr
  simp only [strRows, List.mem_map] at hr
  obtain ⟨t, _, rfl⟩ := hr
  rfl
theorem any_step {l : List ByteArray} {p : ByteArray → Bool} {i : Nat} (h : i < l.length) : (l.drop i).any p = (p (l.getD i ⟨#[]⟩) || (l.drop (i + 1)).any p) := by
  rw [List.drop_eq_getElem_cons h, List.any_cons, List.getD_eq_getElem?_getD, List.getElem?_eq_getElem h, Option.getD_some]
theorem find_step {l : List ByteArray} {p : ByteArray → Bool} {i : Nat} (h : i < l.length) : (l.drop i).find? p = if p (l.getD i ⟨#[]⟩) then some (l.getD i ⟨#[]⟩) else (l.drop (i + 1)).find? p := by
  rw [List.drop_eq_getElem_cons h, List.find?_cons]
  simp only [List.getD_eq_getElem?_getD, List.getElem?_eq_getElem h, Option.getD_some]
  split <;> simp_all
theorem isDigit_iff {c : Int} : isDigit c = true ↔ 48 ≤ c ∧ c ≤ 57 := by simp [isDigit]
theorem numAt_le {s : ByteArray} : ∀ {m i : Nat} {n r : Int}, (∀ j, i ≤ j → j < i + m → isDigit (bAt s j).toNat = true) → 0 ≤ n → n ≤ 9223372036854775807 → numAt s m i n = some r → 0 ≤ r ∧ r ≤ 9223372036854775807
  | 0, i, n, r, _, h0, h1, h => by simp [numAt] at h; subst h; exact ⟨h0, h1⟩
  | m + 1, i, n, r, hd, h0, h1, h => by
    rw [numAt] at h
    have := isDigit_iff.1 (hd i (ler _) (by omega))
    split at h
    · cases h
    · exact numAt_le (fun j a b => hd j (by omega) (by omega)) (by omega) (by omega) h
/-- A whole number at a place. -/
def numberM (s : ByteArray) (i : Nat) : Tok × Nat × Int :=
  match numAt s (runOf isDigit s i - i) i 0 with
  | none => (Tok.zero, i, 1)
  | some n => if runOf isDigit s i < s.size ∧ isLetter (bAt s (runOf isDigit s i)).toNat = true then (Tok.zero, i, 1) else (⟨3, s.extract i (runOf isDigit s i), n, i⟩, runOf isDigit s i, 0)
abbrev resA (r : Tok × Nat × Int) : A := .tup [tokA r.1, A.i64 r.2.1, A.i64 r.2.2]
structure NumI (s : ByteArray) (i e : Nat) (n : Int) : Prop where
  a : i ≤ e
  b : e ≤ s.size
  k : runOf isDigit s e = runOf isDigit s i
  v : numAt s (runOf isDigit s i - i) i 0 = numAt s (runOf isDigit s i - e) e n
  n0 : 0 ≤ n
  n1 : n ≤ 9223372036854775807
theorem NumI.next {s : ByteArray} {i e : Nat} {n : Int} (h : NumI s i e n) (hlt : (e : Int) < s.size) (hd : 48 ≤ ((bAt s e).toNat : Int) ∧ ((bAt s e).toNat : Int) ≤ 57) (hno : 10 * n + ((bAt s e).toNat - 48) ≤ 9223372036854775807) :
    NumI s i (e + 1) (10 * n + ((bAt s e).toNat - 48)) := by
  have hd' : isDigit (bAt s e).toNat = true := isDigit_iff.2 hd
  have hlt' : e < s.size := by omega
  have hk := runOf_go hlt' hd'
  have hge := runOf_ge (p := isDigit) (s := s) (i := e + 1)
  have ha := h.a; have hn := h.n0
  refine ⟨by omega, by omega, by rw [← hk]; exact h.k, ?_, by omega, hno⟩
  rw [h.v]
  have hk2 := h.k
  obtain ⟨m, hm⟩ : ∃ m, runOf isDigit s i - e = m + 1 := ⟨runOf isDigit s i - e - 1, by omega⟩
  rw [hm, numAt, if_neg (by omega)]
  congr 1; omega
theorem NumI.over {s : ByteArray} {i e : Nat} {n : Int} (h : NumI s i e n) (hlt : (e : Int) < s.size) (hd : 48 ≤ ((bAt s e).toNat : Int) ∧ ((bAt s e).toNat : Int) ≤ 57) (hno : 10 * n + ((bAt s e).toNat - 48) > 9223372036854775807) : numberM s i = (Tok.zero, i, 1) := by
  have hd' : isDigit (bAt s e).toNat = true := isDigit_iff.2 hd
  have hlt' : e < s.size := by omega
  have hk := runOf_go hlt' hd'
  have hge := runOf_ge (p := isDigit) (s := s) (i := e + 1)
  have hk2 := h.k
  obtain ⟨m, hm⟩ : ∃ m, runOf isDigit s i - e = m + 1 := ⟨runOf isDigit s i - e - 1, by omega⟩
  have hv := h.v
  rw [hm, numAt, if_pos (by omega)] at hv
  simp only [numberM, hv]
theorem NumI.stop {s : ByteArray} {i e : Nat} {n : Int} (h : NumI s i e n) (hno : ¬ ((e : Int) < s.size ∧ isDigit (bAt s e).toNat = true)) :
    numberM s i = if e < s.size ∧ isLetter (bAt s e).toNat = true then (Tok.zero, i, 1) else (⟨3, s.extract i e, n, i⟩, e, 0) := by
  have hk : runOf isDigit s i = e := by
    rw [← h.k]; exact runOf_stop (fun hh => hno ⟨by omega, hh.2⟩)
  have hv := h.v
  rw [hk, Nat.sub_self, numAt] at hv
  simp only [numberM, hk, hv]
theorem bAt_extract {s : ByteArray} {a k j : Nat} (hk : k ≤ s.size) (hj : j < k - a) : bAt (s.extract a k) j = bAt s (a + j) := by
  have e : (s.extract a k).data = s.data.extract a k := by simp
  unfold bAt
  rw [e, Array.getElem?_extract, if_pos (by show j < min k s.data.size - a; have : s.data.size = s.size := rfl; omega)]
theorem numAt_extract {s : ByteArray} {a k : Nat} (hk : k ≤ s.size) : ∀ (m j : Nat) (n : Int), j + m ≤ k - a → numAt (s.extract a k) m j n = numAt s m (a + j) n
  | 0, _, _, _ => rfl
  | m + 1, j, n, h => by
    rw [numAt, numAt, bAt_extract hk (by omega), numAt_extract hk m (j + 1) _ (by omega)]
    rfl
structure NumR (t : ByteArray) (e : Nat) (n : Int) : Prop where
  b : e ≤ t.size
  v : numAt t t.size 0 0 = numAt t (t.size - e) e n
  n0 : 0 ≤ n
  n1 : n ≤ 9223372036854775807
theorem NumR.next {t : ByteArray} {e : Nat} {n : Int} (h : NumR t e n) (hlt : (e : Int) < t.size) (hd : isDigit (bAt t e).toNat = true) (hno : 10 * n + ((bAt t e).toNat - 48) ≤ 9223372036854775807) : NumR t (e + 1) (10 * n + ((bAt t e).toNat - 48)) := by
  have := isDigit_iff.1 hd
  have h0 := h.n0
  refine ⟨by omega, ?_, by omega, hno⟩
  rw [h.v]
  obtain ⟨m, hm⟩ : ∃ m, t.size - e = m + 1 := ⟨t.size - e - 1, by omega⟩
  rw [hm, numAt, if_neg (by omega)]
  congr 1; omega
theorem NumR.over {t : ByteArray} {e : Nat} {n : Int} (h : NumR t e n) (hlt : (e : Int) < t.size) (hno : 10 * n + ((bAt t e).toNat - 48) > 9223372036854775807) : numAt t t.size 0 0 = none := by
  rw [h.v]
  obtain ⟨m, hm⟩ : ∃ m, t.size - e = m + 1 := ⟨t.size - e - 1, by omega⟩
  rw [hm, numAt, if_pos (by omega)]
theorem NumR.stop {t : ByteArray} {e : Nat} {n : Int} (h : NumR t e n) (hno : (t.size : Int) ≤ e) : numAt t t.size 0 0 = some n := by
  rw [h.v, show t.size - e = 0 by omega, numAt]
/-- A text between quotes. -/
def txt (s : ByteArray) : Nat → Nat → ByteArray → Option (ByteArray × Nat)
  | 0, _, _ => none
  | n + 1, i, acc => if i < s.size then (if bAt s i ≠ 39 then txt s n (i + 1) (acc.push (bAt s i)) else if i + 1 < s.size ∧ bAt s (i + 1) = 39 then txt s n (i + 2) (acc.push 39) else some (acc, i + 1)) else none
theorem txt_over {s : ByteArray} {i : Nat} {acc : ByteArray} (h : s.size ≤ i) : ∀ n, txt s n i acc = none
  | 0 => rfl
  | n + 1 => by rw [txt, if_neg (by omega)]
def textM (s : ByteArray) (a i : Nat) : Tok × Nat × Int :=
  match txt s s.size (i + 1) ⟨#[]⟩ with
  | none => (Tok.zero, a, 1)
  | some (acc, k) => if acc.size > 65536 then (Tok.zero, a, 4) else (⟨4, acc, 0, i⟩, k, 0)
structure TxI (s : ByteArray) (i k : Nat) (acc : ByteArray) : Prop where
  v : ∃ n, s.size - k ≤ n ∧ txt s s.size (i + 1) ⟨#[]⟩ = txt s n k acc
  a : i < k
  b : k ≤ s.size + 1
  l : acc.size ≤ k
theorem u8_39 {c : UInt8} : ((c.toNat : Nat) : Int) = 39 ↔ c = 39 := by
  constructor
  · intro h
    apply UInt8.toNat_inj.1
    have : c.toNat = 39 := by omega
    rw [this]; rfl
  · intro h; subst h; rfl
theorem size_push (b : ByteArray) (c : UInt8) : (b.push c).size = b.size + 1 := by
  show (b.data.push c).size = b.data.size + 1
  simp
theorem TxI.next {s : ByteArray} {i k : Nat} {acc : ByteArray} (h : TxI s i k acc) (hlt : (k : Int) < s.size) (hc : ¬ ((bAt s k).toNat : Int) = 39) : TxI s i (k + 1) (acc.push (bAt s k)) := by
  obtain ⟨n, hn, hv⟩ := h.v
  obtain ⟨m, hm⟩ : ∃ m, n = m + 1 := ⟨n - 1, by omega⟩
  have ha := h.a
  have hl := h.l
  refine ⟨⟨m, by omega, ?_⟩, by omega, by omega, by rw [size_push]; omega⟩
  rw [hv, hm, txt, if_pos (by omega), if_pos (fun e => hc (u8_39.2 e))]
theorem TxI.next2 {s : ByteArray} {i k : Nat} {acc : ByteArray} (h : TxI s i k acc) (hlt : (k : Int) + 1 < s.size) (hc : ((bAt s k).toNat : Int) = 39) (hd : ((bAt s (k + 1)).toNat : Int) = 39) : TxI s i (k + 2) (acc.push 39) := by
  obtain ⟨n, hn, hv⟩ := h.v
  obtain ⟨m, hm⟩ : ∃ m, n = m + 1 := ⟨n - 1, by omega⟩
  have ha := h.a
  have hl := h.l
  refine ⟨⟨m, by omega, ?_⟩, by omega, by omega, by rw [size_push]; omega⟩
  rw [hv, hm, txt, if_pos (by omega), if_neg (fun e => e (u8_39.1 hc)), if_pos ⟨by omega, u8_39.1 hd⟩]
theorem TxI.stop {s : ByteArray} {i k : Nat} {acc : ByteArray} (h : TxI s i k acc) (hlt : (k : Int) < s.size) (hc : ((bAt s k).toNat : Int) = 39) (hd : ¬ ((k : Int) + 1 < s.size ∧ ((bAt s (k + 1)).toNat : Int) = 39)) (a : Nat) :
    textM s a i = if acc.size > 65536 then (Tok.zero, a, 4) else (⟨4, acc, 0, i⟩, k + 1, 0) := by
  obtain ⟨n, hn, hv⟩ := h.v
  obtain ⟨m, hm⟩ : ∃ m, n = m + 1 := ⟨n - 1, by omega⟩
  rw [hm, txt, if_pos (by omega), if_neg (fun e => e (u8_39.1 hc)), if_neg (fun hh => hd ⟨by omega, u8_39.2 hh.2⟩)] at hv
  simp only [textM, hv]
theorem TxI.over {s : ByteArray} {i k : Nat} {acc : ByteArray} (h : TxI s i k acc) (hlt : (s.size : Int) ≤ k) (a : Nat) : textM s a i = (Tok.zero, a, 1) := by
  obtain ⟨n, hn, hv⟩ := h.v
  have h0 := txt_over (s := s) (acc := acc) (i := k) (by omega) n
  rw [h0] at hv
  simp only [textM, hv]
theorem TxI.start {s : ByteArray} {i : Nat} (hi : i < s.size) : TxI s i (i + 1) ⟨#[]⟩ :=
  ⟨⟨s.size, by omega, rfl⟩, by omega, by omega, Nat.zero_le _⟩
theorem app_one {acc s : ByteArray} {k : Nat} (h : k < s.size) : acc ++ s.extract k (k + 1) = acc.push (bAt s k) := by
  have hb := bAt_eq h
  apply ByteArray.ext
  have e : (s.extract k (k + 1)).data = #[bAt s k] := by
    apply Array.ext_getElem?
    intro j
    have h1 := @bAt_extract s k (k + 1) 0 (by omega) (by omega)
    have hs : (s.extract k (k + 1)).data.size = 1 := by
      show (s.extract k (k + 1)).size = 1
      simp; omega
    match j with
    | 0 =>
      unfold bAt at h1 ⊢
      rw [Array.getElem?_eq_getElem (by omega)] at h1 ⊢
      simp at h1 ⊢
      exact h1
    | j + 1 => rw [Array.getElem?_eq_none (by omega)]; simp
  rw [ByteArray.data_append, e]
  simp [ByteArray.push]
theorem app_39 {acc : ByteArray} : acc ++ (⟨#[39]⟩ : ByteArray) = acc.push 39 := by
  apply ByteArray.ext
  rw [ByteArray.data_append]
  simp [ByteArray.push]

theorem en_95 : enters Tryd.prog 95 = true := by kernel_rfl


theorem word_s (s : ByteArray) : Am.Spec Tryd.prog 86 [A.val (.string s)] [] (A.bool (isWord s)) [] := by
  refine spec_ofN (n := 26) Tryd.func86 rfl rfl (nb rfl) ?_
  show AW _ _ (⟨[(0, A.val (.string s))], [], []⟩ : St) _
  refine AW.seq ?_
  refine AW.region ?_
  refine AL.go (OpR.plain rfl (r_assign rfl (nb rfl) (by rintro _ ⟨⟩; rfl))) ?_
  refine AL.nil ?_
  refine thenN ?_
  refine AW.seq ?_
  refine AW.seq ?_
  refine AW.region ?_
  refine AL.go (OpR.plain rfl (r_move rfl (nb rfl) (by rintro _ ⟨⟩))) ?_
  refine AL.nil ?_
  refine thenN ?_
  refine AW.block ?_
  refine AW.seq ?_
  refine AW.seq ?_
  refine AW.region ?_
  refine AL.go (OpR.plain rfl (r_bin rfl rfl (nb rfl) rfl (run_str_eql _ _))) ?_
  refine AL.go (OpR.plain rfl (r_assign rfl (nb rfl) (by rintro _ ⟨⟩))) ?_
  refine AL.nil ?_
  refine thenN ?_
  refine AW.condb rfl (fun h1 => ?_) (fun h1 => ?_)
  · have h1n := h1; try simp only [dtt, dff, bqi, bqf, bni, bnf, nt1, nf1, nt0, nf0, ne_eq, ilt, ile] at h1n
    refine AW.skip ?_
    refine thenN ?_
    refine AW.condT rfl (h1) ?_
    refine AW.seq ?_
    refine AW.region ?_
    refine AL.go (OpR.plain rfl (r_assign rfl (nb rfl) (by rintro _ ⟨⟩; rfl))) ?_
    refine AL.nil ?_
    refine thenN ?_
    refine AW.ret ?_
    refine inbR ?_
    refine thenR ?_
    refine fin_id (.inr rfl) (ends_of rfl (.tmp rfl .nil)) ?_ .nil rfl rfl rfl rfl
    simp only [retA]
    refine A.le_of_eq ?_
    simp_all [isWord, words]
  · have h1n := h1; try simp only [dtt, dff, bqi, bqf, bni, bnf, nt1, nf1, nt0, nf0, ne_eq, ilt, ile] at h1n
    refine AW.seq ?_
    refine AW.region ?_
    refine AL.go (OpR.plain rfl (r_bin rfl rfl (nb rfl) rfl (run_str_eql _ _))) ?_
    refine AL.go (OpR.plain rfl (r_assign rfl (nb rfl) (by rintro _ ⟨⟩))) ?_
    refine AL.nil ?_
    refine thenN ?_
    refine AW.condb rfl (fun h2 => ?_) (fun h2 => ?_)
    · have h2n := h2; try simp only [dtt, dff, bqi, bqf, bni, bnf, nt1, nf1, nt0, nf0, ne_eq, ilt, ile] at h2n
      refine AW.skip ?_
      refine thenN ?_
      refine AW.condT rfl (h2) ?_
      refine AW.seq ?_
      refine AW.region ?_
      refine AL.go (OpR.plain rfl (r_assign rfl (nb rfl) (by rintro _ ⟨⟩; rfl))) ?_
      refine AL.nil ?_
      refine thenN ?_
      refine AW.ret ?_
      refine inbR ?_
      refine thenR ?_
      refine fin_id (.inr rfl) (ends_of rfl (.tmp rfl .nil)) ?_ .nil rfl rfl rfl rfl
      simp only [retA]
      refine A.le_of_eq ?_
      simp_all [isWord, words]
    · have h2n := h2; try simp only [dtt, dff, bqi, bqf, bni, bnf, nt1, nf1, nt0, nf0, ne_eq, ilt, ile] at h2n
      refine AW.seq ?_
      refine AW.region ?_
      refine AL.go (OpR.plain rfl (r_bin rfl rfl (nb rfl) rfl (run_str_eql _ _))) ?_
      refine AL.go (OpR.plain rfl (r_assign rfl (nb rfl) (by rintro _ ⟨⟩))) ?_
      refine AL.nil ?_
      refine thenN ?_
      refine AW.condb rfl (fun h3 => ?_) (fun h3 => ?_)
      · have h3n := h3; try simp only [dtt, dff, bqi, bqf, bni, bnf, nt1, nf1, nt0, nf0, ne_eq, ilt, ile] at h3n
        refine AW.skip ?_
        refine thenN ?_
        refine AW.condT rfl (h3) ?_
        refine AW.seq ?_
        refine AW.region ?_
        refine AL.go (OpR.plain rfl (r_assign rfl (nb rfl) (by rintro _ ⟨⟩; rfl))) ?_
        refine AL.nil ?_
        refine thenN ?_
        refine AW.ret ?_
        refine inbR ?_
        refine thenR ?_
        refine fin_id (.inr rfl) (ends_of rfl (.tmp rfl .nil)) ?_ .nil rfl rfl rfl rfl
        simp only [retA]
        refine A.le_of_eq ?_
        simp_all [isWord, words]
      · have h3n := h3; try simp only [dtt, dff, bqi, bqf, bni, bnf, nt1, nf1, nt0, nf0, ne_eq, ilt, ile] at h3n
        refine AW.seq ?_
        refine AW.region ?_
        refine AL.go (OpR.plain rfl (r_bin rfl rfl (nb rfl) rfl (run_str_eql _ _))) ?_
        refine AL.go (OpR.plain rfl (r_assign rfl (nb rfl) (by rintro _ ⟨⟩))) ?_
        refine AL.nil ?_
        refine thenN ?_
        refine AW.condb rfl (fun h4 => ?_) (fun h4 => ?_)
        · have h4n := h4; try simp only [dtt, dff, bqi, bqf, bni, bnf, nt1, nf1, nt0, nf0, ne_eq, ilt, ile] at h4n
          refine AW.skip ?_
          refine thenN ?_
          refine AW.condT rfl (h4) ?_
          refine AW.seq ?_
          refine AW.region ?_
          refine AL.go (OpR.plain rfl (r_assign rfl (nb rfl) (by rintro _ ⟨⟩; rfl))) ?_
          refine AL.nil ?_
          refine thenN ?_
          refine AW.ret ?_
          refine inbR ?_
          refine thenR ?_
          refine fin_id (.inr rfl) (ends_of rfl (.tmp rfl .nil)) ?_ .nil rfl rfl rfl rfl
          simp only [retA]
          refine A.le_of_eq ?_
          simp_all [isWord, words]
        · have h4n := h4; try simp only [dtt, dff, bqi, bqf, bni, bnf, nt1, nf1, nt0, nf0, ne_eq, ilt, ile] at h4n
          refine AW.seq ?_
          refine AW.region ?_
          refine AL.go (OpR.plain rfl (r_bin rfl rfl (nb rfl) rfl (run_str_eql _ _))) ?_
          refine AL.go (OpR.plain rfl (r_assign rfl (nb rfl) (by rintro _ ⟨⟩))) ?_
          refine AL.nil ?_
          refine thenN ?_
          refine AW.condb rfl (fun h5 => ?_) (fun h5 => ?_)
          · have h5n := h5; try simp only [dtt, dff, bqi, bqf, bni, bnf, nt1, nf1, nt0, nf0, ne_eq, ilt, ile] at h5n
            refine AW.skip ?_
            refine thenN ?_
            refine AW.condT rfl (h5) ?_
            refine AW.seq ?_
            refine AW.region ?_
            refine AL.go (OpR.plain rfl (r_assign rfl (nb rfl) (by rintro _ ⟨⟩; rfl))) ?_
            refine AL.nil ?_
            refine thenN ?_
            refine AW.ret ?_
            refine inbR ?_
            refine thenR ?_
            refine fin_id (.inr rfl) (ends_of rfl (.tmp rfl .nil)) ?_ .nil rfl rfl rfl rfl
            simp only [retA]
            refine A.le_of_eq ?_
            simp_all [isWord, words]
          · have h5n := h5; try simp only [dtt, dff, bqi, bqf, bni, bnf, nt1, nf1, nt0, nf0, ne_eq, ilt, ile] at h5n
            refine AW.seq ?_
            refine AW.region ?_
            refine AL.go (OpR.plain rfl (r_bin rfl rfl (nb rfl) rfl (run_str_eql _ _))) ?_
            refine AL.go (OpR.plain rfl (r_assign rfl (nb rfl) (by rintro _ ⟨⟩))) ?_
            refine AL.nil ?_
            refine thenN ?_
            refine AW.condb rfl (fun h6 => ?_) (fun h6 => ?_)
            · have h6n := h6; try simp only [dtt, dff, bqi, bqf, bni, bnf, nt1, nf1, nt0, nf0, ne_eq, ilt, ile] at h6n
              refine AW.skip ?_
              refine thenN ?_
              refine AW.condT rfl (h6) ?_
              refine AW.seq ?_
              refine AW.region ?_
              refine AL.go (OpR.plain rfl (r_assign rfl (nb rfl) (by rintro _ ⟨⟩; rfl))) ?_
              refine AL.nil ?_
              refine thenN ?_
              refine AW.ret ?_
              refine inbR ?_
              refine thenR ?_
              refine fin_id (.inr rfl) (ends_of rfl (.tmp rfl .nil)) ?_ .nil rfl rfl rfl rfl
              simp only [retA]
              refine A.le_of_eq ?_
              simp_all [isWord, words]
            · have h6n := h6; try simp only [dtt, dff, bqi, bqf, bni, bnf, nt1, nf1, nt0, nf0, ne_eq, ilt, ile] at h6n
              refine AW.seq ?_
              refine AW.region ?_
              refine AL.go (OpR.plain rfl (r_bin rfl rfl (nb rfl) rfl (run_str_eql _ _))) ?_
              refine AL.go (OpR.plain rfl (r_assign rfl (nb rfl) (by rintro _ ⟨⟩))) ?_
              refine AL.nil ?_
              refine thenN ?_
              refine AW.condb rfl (fun h7 => ?_) (fun h7 => ?_)
              · have h7n := h7; try simp only [dtt, dff, bqi, bqf, bni, bnf, nt1, nf1, nt0, nf0, ne_eq, ilt, ile] at h7n
                refine AW.skip ?_
                refine thenN ?_
                refine AW.condT rfl (h7) ?_
                refine AW.seq ?_
                refine AW.region ?_
                refine AL.go (OpR.plain rfl (r_assign rfl (nb rfl) (by rintro _ ⟨⟩; rfl))) ?_
                refine AL.nil ?_
                refine thenN ?_
                refine AW.ret ?_
                refine inbR ?_
                refine thenR ?_
                refine fin_id (.inr rfl) (ends_of rfl (.tmp rfl .nil)) ?_ .nil rfl rfl rfl rfl
                simp only [retA]
                refine A.le_of_eq ?_
                simp_all [isWord, words]
              · have h7n := h7; try simp only [dtt, dff, bqi, bqf, bni, bnf, nt1, nf1, nt0, nf0, ne_eq, ilt, ile] at h7n
                refine AW.seq ?_
                refine AW.region ?_
                refine AL.go (OpR.plain rfl (r_bin rfl rfl (nb rfl) rfl (run_str_eql _ _))) ?_
                refine AL.go (OpR.plain rfl (r_assign rfl (nb rfl) (by rintro _ ⟨⟩))) ?_
                refine AL.nil ?_
                refine thenN ?_
                refine AW.condb rfl (fun h8 => ?_) (fun h8 => ?_)
                · have h8n := h8; try simp only [dtt, dff, bqi, bqf, bni, bnf, nt1, nf1, nt0, nf0, ne_eq, ilt, ile] at h8n
                  refine AW.skip ?_
                  refine thenN ?_
                  refine AW.condT rfl (h8) ?_
                  refine AW.seq ?_
                  refine AW.region ?_
                  refine AL.go (OpR.plain rfl (r_assign rfl (nb rfl) (by rintro _ ⟨⟩; rfl))) ?_
                  refine AL.nil ?_
                  refine thenN ?_
                  refine AW.ret ?_
                  refine inbR ?_
                  refine thenR ?_
                  refine fin_id (.inr rfl) (ends_of rfl (.tmp rfl .nil)) ?_ .nil rfl rfl rfl rfl
                  simp only [retA]
                  refine A.le_of_eq ?_
                  simp_all [isWord, words]
                · have h8n := h8; try simp only [dtt, dff, bqi, bqf, bni, bnf, nt1, nf1, nt0, nf0, ne_eq, ilt, ile] at h8n
                  refine AW.seq ?_
                  refine AW.region ?_
                  refine AL.go (OpR.plain rfl (r_bin rfl rfl (nb rfl) rfl (run_str_eql _ _))) ?_
                  refine AL.go (OpR.plain rfl (r_assign rfl (nb rfl) (by rintro _ ⟨⟩))) ?_
                  refine AL.nil ?_
                  refine thenN ?_
                  refine AW.condb rfl (fun h9 => ?_) (fun h9 => ?_)
                  · have h9n := h9; try simp only [dtt, dff, bqi, bqf, bni, bnf, nt1, nf1, nt0, nf0, ne_eq, ilt, ile] at h9n
                    refine AW.skip ?_
                    refine thenN ?_
                    refine AW.condT rfl (h9) ?_
                    refine AW.seq ?_
                    refine AW.region ?_
                    refine AL.go (OpR.plain rfl (r_assign rfl (nb rfl) (by rintro _ ⟨⟩; rfl))) ?_
                    refine AL.nil ?_
                    refine thenN ?_
                    refine AW.ret ?_
                    refine inbR ?_
                    refine thenR ?_
                    refine fin_id (.inr rfl) (ends_of rfl (.tmp rfl .nil)) ?_ .nil rfl rfl rfl rfl
                    simp only [retA]
                    refine A.le_of_eq ?_
                    simp_all [isWord, words]
                  · have h9n := h9; try simp only [dtt, dff, bqi, bqf, bni, bnf, nt1, nf1, nt0, nf0, ne_eq, ilt, ile] at h9n
                    refine AW.seq ?_
                    refine AW.region ?_
                    refine AL.go (OpR.plain rfl (r_bin rfl rfl (nb rfl) rfl (run_str_eql _ _))) ?_
                    refine AL.go (OpR.plain rfl (r_assign rfl (nb rfl) (by rintro _ ⟨⟩))) ?_
                    refine AL.nil ?_
                    refine thenN ?_
                    refine AW.condb rfl (fun h10 => ?_) (fun h10 => ?_)
                    · have h10n := h10; try simp only [dtt, dff, bqi, bqf, bni, bnf, nt1, nf1, nt0, nf0, ne_eq, ilt, ile] at h10n
                      refine AW.skip ?_
                      refine thenN ?_
                      refine AW.condT rfl (h10) ?_
                      refine AW.seq ?_
                      refine AW.region ?_
                      refine AL.go (OpR.plain rfl (r_assign rfl (nb rfl) (by rintro _ ⟨⟩; rfl))) ?_
                      refine AL.nil ?_
                      refine thenN ?_
                      refine AW.ret ?_
                      refine inbR ?_
                      refine thenR ?_
                      refine fin_id (.inr rfl) (ends_of rfl (.tmp rfl .nil)) ?_ .nil rfl rfl rfl rfl
                      simp only [retA]
                      refine A.le_of_eq ?_
                      simp_all [isWord, words]
                    · have h10n := h10; try simp only [dtt, dff, bqi, bqf, bni, bnf, nt1, nf1, nt0, nf0, ne_eq, ilt, ile] at h10n
                      refine AW.region ?_
                      refine AL.go (OpR.plain rfl (r_bin rfl rfl (nb rfl) rfl (run_str_eql _ _))) ?_
                      refine AL.go (OpR.plain rfl (r_assign rfl (nb rfl) (by rintro _ ⟨⟩))) ?_
                      refine AL.nil ?_
                      refine thenN ?_
                      refine AW.condb rfl (fun h11 => ?_) (fun h11 => ?_)
                      · have h11n := h11; try simp only [dtt, dff, bqi, bqf, bni, bnf, nt1, nf1, nt0, nf0, ne_eq, ilt, ile] at h11n
                        refine AW.seq ?_
                        refine AW.region ?_
                        refine AL.go (OpR.plain rfl (r_assign rfl (nb rfl) (by rintro _ ⟨⟩; rfl))) ?_
                        refine AL.nil ?_
                        refine thenN ?_
                        refine AW.ret ?_
                        refine inbR ?_
                        refine thenR ?_
                        refine fin_id (.inr rfl) (ends_of rfl (.tmp rfl .nil)) ?_ .nil rfl rfl rfl rfl
                        simp only [retA]
                        refine A.le_of_eq ?_
                        simp_all [isWord, words]
                      · have h11n := h11; try simp only [dtt, dff, bqi, bqf, bni, bnf, nt1, nf1, nt0, nf0, ne_eq, ilt, ile] at h11n
                        refine AW.seq ?_
                        refine AW.seq ?_
                        refine AW.region ?_
                        refine AL.go (OpR.plain rfl (r_bin rfl rfl (nb rfl) rfl (run_str_eql _ _))) ?_
                        refine AL.go (OpR.plain rfl (r_assign rfl (nb rfl) (by rintro _ ⟨⟩))) ?_
                        refine AL.nil ?_
                        refine thenN ?_
                        refine AW.condb rfl (fun h12 => ?_) (fun h12 => ?_)
                        · have h12n := h12; try simp only [dtt, dff, bqi, bqf, bni, bnf, nt1, nf1, nt0, nf0, ne_eq, ilt, ile] at h12n
                          refine AW.skip ?_
                          refine thenN ?_
                          refine AW.condT rfl (h12) ?_
                          refine AW.seq ?_
                          refine AW.region ?_
                          refine AL.go (OpR.plain rfl (r_assign rfl (nb rfl) (by rintro _ ⟨⟩; rfl))) ?_
                          refine AL.nil ?_
                          refine thenN ?_
                          refine AW.ret ?_
                          refine inbR ?_
                          refine thenR ?_
                          refine fin_id (.inr rfl) (ends_of rfl (.tmp rfl .nil)) ?_ .nil rfl rfl rfl rfl
                          simp only [retA]
                          refine A.le_of_eq ?_
                          simp_all [isWord, words]
                        · have h12n := h12; try simp only [dtt, dff, bqi, bqf, bni, bnf, nt1, nf1, nt0, nf0, ne_eq, ilt, ile] at h12n
                          refine AW.seq ?_
                          refine AW.region ?_
                          refine AL.go (OpR.plain rfl (r_bin rfl rfl (nb rfl) rfl (run_str_eql _ _))) ?_
                          refine AL.go (OpR.plain rfl (r_assign rfl (nb rfl) (by rintro _ ⟨⟩))) ?_
                          refine AL.nil ?_
                          refine thenN ?_
                          refine AW.condb rfl (fun h13 => ?_) (fun h13 => ?_)
                          · have h13n := h13; try simp only [dtt, dff, bqi, bqf, bni, bnf, nt1, nf1, nt0, nf0, ne_eq, ilt, ile] at h13n
                            refine AW.skip ?_
                            refine thenN ?_
                            refine AW.condT rfl (h13) ?_
                            refine AW.seq ?_
                            refine AW.region ?_
                            refine AL.go (OpR.plain rfl (r_assign rfl (nb rfl) (by rintro _ ⟨⟩; rfl))) ?_
                            refine AL.nil ?_
                            refine thenN ?_
                            refine AW.ret ?_
                            refine inbR ?_
                            refine thenR ?_
                            refine fin_id (.inr rfl) (ends_of rfl (.tmp rfl .nil)) ?_ .nil rfl rfl rfl rfl
                            simp only [retA]
                            refine A.le_of_eq ?_
                            simp_all [isWord, words]
                          · have h13n := h13; try simp only [dtt, dff, bqi, bqf, bni, bnf, nt1, nf1, nt0, nf0, ne_eq, ilt, ile] at h13n
                            refine AW.seq ?_
                            refine AW.region ?_
                            refine AL.go (OpR.plain rfl (r_bin rfl rfl (nb rfl) rfl (run_str_eql _ _))) ?_
                            refine AL.go (OpR.plain rfl (r_assign rfl (nb rfl) (by rintro _ ⟨⟩))) ?_
                            refine AL.nil ?_
                            refine thenN ?_
                            refine AW.condb rfl (fun h14 => ?_) (fun h14 => ?_)
                            · have h14n := h14; try simp only [dtt, dff, bqi, bqf, bni, bnf, nt1, nf1, nt0, nf0, ne_eq, ilt, ile] at h14n
                              refine AW.skip ?_
                              refine thenN ?_
                              refine AW.condT rfl (h14) ?_
                              refine AW.seq ?_
                              refine AW.region ?_
                              refine AL.go (OpR.plain rfl (r_assign rfl (nb rfl) (by rintro _ ⟨⟩; rfl))) ?_
                              refine AL.nil ?_
                              refine thenN ?_
                              refine AW.ret ?_
                              refine inbR ?_
                              refine thenR ?_
                              refine fin_id (.inr rfl) (ends_of rfl (.tmp rfl .nil)) ?_ .nil rfl rfl rfl rfl
                              simp only [retA]
                              refine A.le_of_eq ?_
                              simp_all [isWord, words]
                            · have h14n := h14; try simp only [dtt, dff, bqi, bqf, bni, bnf, nt1, nf1, nt0, nf0, ne_eq, ilt, ile] at h14n
                              refine AW.seq ?_
                              refine AW.region ?_
                              refine AL.go (OpR.plain rfl (r_bin rfl rfl (nb rfl) rfl (run_str_eql _ _))) ?_
                              refine AL.go (OpR.plain rfl (r_assign rfl (nb rfl) (by rintro _ ⟨⟩))) ?_
                              refine AL.nil ?_
                              refine thenN ?_
                              refine AW.condb rfl (fun h15 => ?_) (fun h15 => ?_)
                              · have h15n := h15; try simp only [dtt, dff, bqi, bqf, bni, bnf, nt1, nf1, nt0, nf0, ne_eq, ilt, ile] at h15n
                                refine AW.skip ?_
                                refine thenN ?_
                                refine AW.condT rfl (h15) ?_
                                refine AW.seq ?_
                                refine AW.region ?_
                                refine AL.go (OpR.plain rfl (r_assign rfl (nb rfl) (by rintro _ ⟨⟩; rfl))) ?_
                                refine AL.nil ?_
                                refine thenN ?_
                                refine AW.ret ?_
                                refine inbR ?_
                                refine thenR ?_
                                refine fin_id (.inr rfl) (ends_of rfl (.tmp rfl .nil)) ?_ .nil rfl rfl rfl rfl
                                simp only [retA]
                                refine A.le_of_eq ?_
                                simp_all [isWord, words]
                              · have h15n := h15; try simp only [dtt, dff, bqi, bqf, bni, bnf, nt1, nf1, nt0, nf0, ne_eq, ilt, ile] at h15n
                                refine AW.seq ?_
                                refine AW.region ?_
                                refine AL.go (OpR.plain rfl (r_bin rfl rfl (nb rfl) rfl (run_str_eql _ _))) ?_
                                refine AL.go (OpR.plain rfl (r_assign rfl (nb rfl) (by rintro _ ⟨⟩))) ?_
                                refine AL.nil ?_
                                refine thenN ?_
                                refine AW.condb rfl (fun h16 => ?_) (fun h16 => ?_)
                                · have h16n := h16; try simp only [dtt, dff, bqi, bqf, bni, bnf, nt1, nf1, nt0, nf0, ne_eq, ilt, ile] at h16n
                                  refine AW.skip ?_
                                  refine thenN ?_
                                  refine AW.condT rfl (h16) ?_
                                  refine AW.seq ?_
                                  refine AW.region ?_
                                  refine AL.go (OpR.plain rfl (r_assign rfl (nb rfl) (by rintro _ ⟨⟩; rfl))) ?_
                                  refine AL.nil ?_
                                  refine thenN ?_
                                  refine AW.ret ?_
                                  refine inbR ?_
                                  refine thenR ?_
                                  refine fin_id (.inr rfl) (ends_of rfl (.tmp rfl .nil)) ?_ .nil rfl rfl rfl rfl
                                  simp only [retA]
                                  refine A.le_of_eq ?_
                                  simp_all [isWord, words]
                                · have h16n := h16; try simp only [dtt, dff, bqi, bqf, bni, bnf, nt1, nf1, nt0, nf0, ne_eq, ilt, ile] at h16n
                                  refine AW.seq ?_
                                  refine AW.region ?_
                                  refine AL.go (OpR.plain rfl (r_bin rfl rfl (nb rfl) rfl (run_str_eql _ _))) ?_
                                  refine AL.go (OpR.plain rfl (r_assign rfl (nb rfl) (by rintro _ ⟨⟩))) ?_
                                  refine AL.nil ?_
                                  refine thenN ?_
                                  refine AW.condb rfl (fun h17 => ?_) (fun h17 => ?_)
                                  · have h17n := h17; try simp only [dtt, dff, bqi, bqf, bni, bnf, nt1, nf1, nt0, nf0, ne_eq, ilt, ile] at h17n
                                    refine AW.skip ?_
                                    refine thenN ?_
                                    refine AW.condT rfl (h17) ?_
                                    refine AW.seq ?_
                                    refine AW.region ?_
                                    refine AL.go (OpR.plain rfl (r_assign rfl (nb rfl) (by rintro _ ⟨⟩; rfl))) ?_
                                    refine AL.nil ?_
                                    refine thenN ?_
                                    refine AW.ret ?_
                                    refine inbR ?_
                                    refine thenR ?_
                                    refine fin_id (.inr rfl) (ends_of rfl (.tmp rfl .nil)) ?_ .nil rfl rfl rfl rfl
                                    simp only [retA]
                                    refine A.le_of_eq ?_
                                    simp_all [isWord, words]
                                  · have h17n := h17; try simp only [dtt, dff, bqi, bqf, bni, bnf, nt1, nf1, nt0, nf0, ne_eq, ilt, ile] at h17n
                                    refine AW.seq ?_
                                    refine AW.region ?_
                                    refine AL.go (OpR.plain rfl (r_bin rfl rfl (nb rfl) rfl (run_str_eql _ _))) ?_
                                    refine AL.go (OpR.plain rfl (r_assign rfl (nb rfl) (by rintro _ ⟨⟩))) ?_
                                    refine AL.nil ?_
                                    refine thenN ?_
                                    refine AW.condb rfl (fun h18 => ?_) (fun h18 => ?_)
                                    · have h18n := h18; try simp only [dtt, dff, bqi, bqf, bni, bnf, nt1, nf1, nt0, nf0, ne_eq, ilt, ile] at h18n
                                      refine AW.skip ?_
                                      refine thenN ?_
                                      refine AW.condT rfl (h18) ?_
                                      refine AW.seq ?_
                                      refine AW.region ?_
                                      refine AL.go (OpR.plain rfl (r_assign rfl (nb rfl) (by rintro _ ⟨⟩; rfl))) ?_
                                      refine AL.nil ?_
                                      refine thenN ?_
                                      refine AW.ret ?_
                                      refine inbR ?_
                                      refine thenR ?_
                                      refine fin_id (.inr rfl) (ends_of rfl (.tmp rfl .nil)) ?_ .nil rfl rfl rfl rfl
                                      simp only [retA]
                                      refine A.le_of_eq ?_
                                      simp_all [isWord, words]
                                    · have h18n := h18; try simp only [dtt, dff, bqi, bqf, bni, bnf, nt1, nf1, nt0, nf0, ne_eq, ilt, ile] at h18n
                                      refine AW.seq ?_
                                      refine AW.region ?_
                                      refine AL.go (OpR.plain rfl (r_bin rfl rfl (nb rfl) rfl (run_str_eql _ _))) ?_
                                      refine AL.go (OpR.plain rfl (r_assign rfl (nb rfl) (by rintro _ ⟨⟩))) ?_
                                      refine AL.nil ?_
                                      refine thenN ?_
                                      refine AW.condb rfl (fun h19 => ?_) (fun h19 => ?_)
                                      · have h19n := h19; try simp only [dtt, dff, bqi, bqf, bni, bnf, nt1, nf1, nt0, nf0, ne_eq, ilt, ile] at h19n
                                        refine AW.skip ?_
                                        refine thenN ?_
                                        refine AW.condT rfl (h19) ?_
                                        refine AW.seq ?_
                                        refine AW.region ?_
                                        refine AL.go (OpR.plain rfl (r_assign rfl (nb rfl) (by rintro _ ⟨⟩; rfl))) ?_
                                        refine AL.nil ?_
                                        refine thenN ?_
                                        refine AW.ret ?_
                                        refine inbR ?_
                                        refine thenR ?_
                                        refine fin_id (.inr rfl) (ends_of rfl (.tmp rfl .nil)) ?_ .nil rfl rfl rfl rfl
                                        simp only [retA]
                                        refine A.le_of_eq ?_
                                        simp_all [isWord, words]
                                      · have h19n := h19; try simp only [dtt, dff, bqi, bqf, bni, bnf, nt1, nf1, nt0, nf0, ne_eq, ilt, ile] at h19n
                                        refine AW.region ?_
                                        refine AL.go (OpR.plain rfl (r_bin rfl rfl (nb rfl) rfl (run_str_eql _ _))) ?_
                                        refine AL.go (OpR.plain rfl (r_assign rfl (nb rfl) (by rintro _ ⟨⟩))) ?_
                                        refine AL.nil ?_
                                        refine thenN ?_
                                        refine AW.condb rfl (fun h20 => ?_) (fun h20 => ?_)
                                        · have h20n := h20; try simp only [dtt, dff, bqi, bqf, bni, bnf, nt1, nf1, nt0, nf0, ne_eq, ilt, ile] at h20n
                                          refine AW.seq ?_
                                          refine AW.region ?_
                                          refine AL.go (OpR.plain rfl (r_assign rfl (nb rfl) (by rintro _ ⟨⟩; rfl))) ?_
                                          refine AL.nil ?_
                                          refine thenN ?_
                                          refine AW.ret ?_
                                          refine inbR ?_
                                          refine thenR ?_
                                          refine fin_id (.inr rfl) (ends_of rfl (.tmp rfl .nil)) ?_ .nil rfl rfl rfl rfl
                                          simp only [retA]
                                          refine A.le_of_eq ?_
                                          simp_all [isWord, words]
                                        · have h20n := h20; try simp only [dtt, dff, bqi, bqf, bni, bnf, nt1, nf1, nt0, nf0, ne_eq, ilt, ile] at h20n
                                          refine AW.skip ?_
                                          refine inbN ?_
                                          refine thenN ?_
                                          refine AW.seq ?_
                                          refine AW.region ?_
                                          refine AL.go (OpR.plain rfl (r_assign rfl (nb rfl) (by rintro _ ⟨⟩; rfl))) ?_
                                          refine AL.nil ?_
                                          refine thenN ?_
                                          refine AW.ret ?_
                                          refine fin_id (.inr rfl) (ends_of rfl (.tmp rfl .nil)) ?_ .nil rfl rfl rfl rfl
                                          simp only [retA]
                                          refine A.le_of_eq ?_
                                          simp_all [isWord, words]

theorem pre_s (s p : ByteArray) (hs : s.size ≤ 10000000000000) : Am.Spec Tryd.prog 95 [A.val (.string s), A.val (.string p)] [] (A.bool (decide (p.size ≤ s.size ∧ s.extract 0 p.size = p))) [] := by
  refine spec_ofN (n := 18) Tryd.func95 rfl rfl (nb rfl) ?_
  show AW _ _ (⟨[(0, A.val (.string s)), (1, A.val (.string p))], [], []⟩ : St) _
  refine AW.seq ?_
  refine AW.region ?_
  refine AL.go (OpR.plain rfl (r_assign rfl (nb rfl) (by rintro _ ⟨⟩; rfl))) ?_
  refine AL.nil ?_
  refine thenN ?_
  refine AW.seq ?_
  refine AW.region ?_
  refine AL.go (OpR.plain rfl (r_move rfl (nb rfl) (by rintro _ ⟨⟩))) ?_
  refine AL.go (OpR.plain rfl (r_lens un_9 rfl (nb rfl))) ?_
  refine AL.go (OpR.plain rfl (r_move rfl (nb rfl) (by rintro _ ⟨⟩))) ?_
  refine AL.go (OpR.plain rfl (r_lens un_9 rfl (nb rfl))) ?_
  refine AL.go (OpR.plain rfl (r_bin rfl rfl (nb rfl) rfl (run_int_geq _ _ _))) ?_
  refine AL.go (OpR.plain rfl (r_move rfl (nb rfl) (by rintro _ ⟨⟩))) ?_
  refine AL.ifb (t := 10) rfl (fun h1 => ?_) (fun h1 => ?_)
  · have h1n := h1; try simp only [dtt, dff, bqi, bqf, bni, bnf, nt1, nf1, nt0, nf0, ne_eq, ilt, ile] at h1n
    refine AL.go (OpR.onb rfl rfl (nb rfl) rfl (h1) (r_move rfl (nb rfl) (by rintro _ ⟨⟩))) ?_
    refine AL.go (OpR.onb rfl rfl (nb rfl) rfl (h1) (r_move rfl (nb rfl) (by rintro _ ⟨⟩))) ?_
    refine AL.go (OpR.onb rfl rfl (nb rfl) rfl (h1) (r_lens un_9 rfl (nb rfl))) ?_
    refine AL.go (OpR.onb rfl rfl (nb rfl) rfl (h1) (r_substrTo un_9 rfl rfl (nb rfl) (by first | omega | (simp only [dtt, dff, bqi, bqf, bni, nt1, nf1] at *; omega)) (by first | omega | (simp only [dtt, dff, bqi, bqf, bni, nt1, nf1] at *; omega)))) ?_
    refine AL.go (OpR.onb rfl rfl (nb rfl) rfl (h1) (r_move rfl (nb rfl) (by rintro _ ⟨⟩))) ?_
    refine AL.go (OpR.onb rfl rfl (nb rfl) rfl (h1) (r_bin rfl rfl (nb rfl) rfl (run_str_eql _ _))) ?_
    refine AL.go (OpR.plain rfl (r_pickTb rfl (h1) rfl (nb rfl) (by rintro _ ⟨⟩))) ?_
    refine AL.go (OpR.plain rfl (r_assign rfl (nb rfl) (by rintro _ ⟨⟩))) ?_
    refine AL.nil ?_
    refine thenN ?_
    refine AW.ret ?_
    refine fin_id (.inr rfl) (ends_of rfl (.tmp rfl .nil)) ?_ .nil rfl rfl rfl rfl
    simp only [retA]
    refine A.le_of_eq ?_
    first | (simp_all; done) | (simp_all; omega)
  · have h1n := h1; try simp only [dtt, dff, bqi, bqf, bni, bnf, nt1, nf1, nt0, nf0, ne_eq, ilt, ile] at h1n
    refine AL.go (.off rfl rfl (nb rfl) rfl (by rw [h1]; decide) rfl (nb rfl)) ?_
    refine AL.go (.off rfl rfl (nb rfl) rfl (by rw [h1]; decide) rfl (nb rfl)) ?_
    refine AL.go (.off rfl rfl (nb rfl) rfl (by rw [h1]; decide) rfl (nb rfl)) ?_
    refine AL.go (.off rfl rfl (nb rfl) rfl (by rw [h1]; decide) rfl (nb rfl)) ?_
    refine AL.go (.off rfl rfl (nb rfl) rfl (by rw [h1]; decide) rfl (nb rfl)) ?_
    refine AL.go (.off rfl rfl (nb rfl) rfl (by rw [h1]; decide) rfl (nb rfl)) ?_
    refine AL.go (OpR.plain rfl (r_pickFb rfl (h1) rfl (nb rfl) (by rintro _ ⟨⟩; rfl))) ?_
    refine AL.go (OpR.plain rfl (r_assign rfl (nb rfl) (by rintro _ ⟨⟩))) ?_
    refine AL.nil ?_
    refine thenN ?_
    refine AW.ret ?_
    refine fin_id (.inr rfl) (ends_of rfl (.tmp rfl .nil)) ?_ .nil rfl rfl rfl rfl
    simp only [retA]
    refine A.le_of_eq ?_
    first | (simp_all; done) | (simp_all; omega)

theorem pref_s (s p : ByteArray) (hs : s.size ≤ 10000000000000) : Am.Spec Tryd.prog 85 [A.val (.string s), A.val (.string p)] [] (A.bool (decide (p.size ≤ s.size ∧ s.extract 0 p.size = p))) [] := by
  refine spec_ofN (n := 8) Tryd.func85 rfl rfl (nb rfl) ?_
  show AW _ _ (⟨[(0, A.val (.string s)), (1, A.val (.string p))], [], []⟩ : St) _
  refine AW.seq ?_
  refine AW.region ?_
  refine AL.go (OpR.plain rfl (r_assign rfl (nb rfl) (by rintro _ ⟨⟩; rfl))) ?_
  refine AL.nil ?_
  refine thenN ?_
  refine AW.seq ?_
  refine AW.region ?_
  refine AL.go (OpR.plain rfl (r_move rfl (nb rfl) (by rintro _ ⟨⟩))) ?_
  refine AL.go (OpR.plain rfl (r_move rfl (nb rfl) (by rintro _ ⟨⟩))) ?_
  refine AL.go (OpR.plain rfl (r_callFun (pre_s _ _ (by omega)) en_95 rfl rfl rfl rfl (.cons (A.le_refl _) (.cons (A.le_refl _) .nil)) rfl (nb rfl))) ?_
  refine AL.go (OpR.plain rfl (r_assign rfl (nb rfl) (by rintro _ ⟨⟩))) ?_
  refine AL.nil ?_
  refine thenN ?_
  refine AW.ret ?_
  refine fin_id (.inr rfl) (ends_of rfl (.tmp rfl .nil)) ?_ .nil rfl rfl rfl rfl
  simp only [retA]
  exact A.le_refl _

end Go.Par
