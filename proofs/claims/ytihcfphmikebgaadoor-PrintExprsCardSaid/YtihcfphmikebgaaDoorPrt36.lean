import Derived.Test.YtihcfphmikebgaaDoorPrt35
namespace Go.Par
open Go Go.Am Go.Proofs Go.RowKit
set_option linter.unusedVariables false
set_option linter.unusedSimpArgs false

/-! A printed expression is cut into the tokens it was printed from -/
theorem ba_size (s : ByteArray) : s.data.toList.length = s.size := by rw [Array.length_toList]; rfl
def At (s : ByteArray) (a : Nat) (l : List UInt8) : Prop := s.data.toList.drop a = l
theorem At.byte {s : ByteArray} {a : Nat} {c : UInt8} {l : List UInt8} (h : At s a (c :: l)) : bAt s a = c ∧ a < s.size ∧ At s (a + 1) l := by
  have h0 : s.data.toList[a]? = some c := by
    have := congrArg (·[0]?) h
    simpa using this
  refine ⟨by unfold bAt; rw [← Array.getElem?_toList, h0]; rfl, ?_, ?_⟩
  · have := (List.getElem?_eq_some_iff.1 h0).1
    rwa [ba_size] at this
  · unfold At at h ⊢
    rw [← List.drop_drop, h]; rfl
theorem At.nil {s : ByteArray} {a : Nat} (h : At s a []) : s.size ≤ a := by
  unfold At at h
  rw [List.drop_eq_nil_iff, ba_size] at h
  exact h
theorem At.len {s : ByteArray} {a : Nat} {l : List UInt8} (h : At s a l) : l.length = s.size - a := by
  rw [← h, List.length_drop, ba_size]
theorem At.app {s : ByteArray} {a : Nat} {w l : List UInt8} (h : At s a (w ++ l)) : At s (a + w.length) l := by
  unfold At at h ⊢
  rw [← List.drop_drop, h]; simp
theorem At.sub {s : ByteArray} {a : Nat} {w l : List UInt8} (h : At s a (w ++ l)) : s.extract a (a + w.length) = ⟨w.toArray⟩ := by
  apply ByteArray.ext
  apply Array.toList_inj.1
  unfold At at h
  simp [ByteArray.data_extract, Array.toList_extract, List.extract_eq_take_drop, h]
theorem At.run {p : Int → Bool} {s : ByteArray} {l : List UInt8} (hl : ∀ c r, l = c :: r → p c.toNat = false) : ∀ {w : List UInt8} {a : Nat}, At s a (w ++ l) → (∀ c ∈ w, p c.toNat = true) → runOf p s a = a + w.length
  | [], a, h, hw => by
    refine runOf_stop ?_
    rintro ⟨h1, h2⟩
    cases l with
    | nil => have := h.nil; omega
    | cons c r =>
      rw [(At.byte (l := r) h).1, hl c r rfl] at h2
      cases h2
  | c :: w, a, h, hw => by
    obtain ⟨h1, h2, h3⟩ := At.byte (l := w ++ l) h
    rw [runOf_go h2 (by rw [h1]; exact hw c (by simp)), At.run hl (w := w) h3 (fun d hd => hw d (by simp [hd])), lnc]
    omega
theorem At.pre {s : ByteArray} {i : Nat} {l : List UInt8} (h : At s i l) (hi : i ≤ s.size) (w : ByteArray) : matchAt s i w = w.data.toList.isPrefixOf l := by
  unfold matchAt
  rw [Bool.eq_iff_iff, dtt, List.isPrefixOf_iff_prefix]
  have hw : w.size = w.data.toList.length := (ba_size w).symm
  constructor
  · rintro ⟨h1, h2⟩
    have e : w.data.toList = l.take w.size := by
      conv => lhs; rw [← h2]
      unfold At at h
      simp [ByteArray.data_extract, Array.toList_extract, List.extract_eq_take_drop, h]
    rw [e]
    exact List.take_prefix _ _
  · rintro ⟨r, hr⟩
    subst hr
    have h1 := h.sub
    have h2 := h.len
    rw [List.length_append] at h2
    rw [← hw] at h1 h2
    exact ⟨by omega, h1⟩
/-- What may follow a token that could go on. -/
def sepH (l : List UInt8) : Prop := ∀ c r, l = c :: r → c = 32 ∨ c = 40 ∨ c = 41 ∨ c = 44 ∨ c = 46
theorem sepH_nil : sepH [] := fun c r h => by cases h
theorem sepH_cons {c : UInt8} {l : List UInt8} (h : c = 32 ∨ c = 40 ∨ c = 41 ∨ c = 44 ∨ c = 46) : sepH (c :: l) := fun d r e => by cases e; exact h
theorem sepH.of {l : List UInt8} (h : sepH l) (f : UInt8 → Prop) (hf : f 32 ∧ f 40 ∧ f 41 ∧ f 44 ∧ f 46) : ∀ c r, l = c :: r → f c := fun c r e => by
  rcases h c r e with rfl | rfl | rfl | rfl | rfl
  · exact hf.1
  · exact hf.2.1
  · exact hf.2.2.1
  · exact hf.2.2.2.1
  · exact hf.2.2.2.2
inductive TkOk : Tk → Prop where
  | name {s : ByteArray} (h : nameOk s) : TkOk (nameT s)
  | word {s : ByteArray} (h : isWord s = true) : TkOk (wordT s)
  | num {n : Int} (h0 : 0 ≤ n) (h1 : n ≤ 9223372036854775807) : TkOk ⟨3, itoaM n, n⟩
  | txt {s : ByteArray} (h : s.size ≤ 65536) : TkOk ⟨4, s, 0⟩
  | sign {s : ByteArray} (h : s ∈ signL) : TkOk ⟨5, s, 0⟩
def Tk.bytes (k : Tk) : List UInt8 := if k.kd = 4 then 39 :: (quoteL k.tx.data.toList ++ [39]) else k.tx.data.toList
/-- A sign that nothing can follow wrongly. -/
def Tk.free (k : Tk) : Prop := k.kd = 5 ∧ (k.tx = bOpen ∨ k.tx = bClose ∨ k.tx = ⟨#[46]⟩ ∨ k.tx = ⟨#[44]⟩ ∨ k.tx = ⟨#[42]⟩)
theorem ba_list (s : ByteArray) : (⟨s.data.toList.toArray⟩ : ByteArray) = s := by apply ByteArray.ext; simp
theorem ba_ne {s : ByteArray} (h : 0 < s.size) : ∃ c l, s.data.toList = c :: l ∧ bAt s 0 = c := by
  cases hl : s.data.toList with
  | nil =>
    have : s.size = 0 := by rw [← ba_size, hl]; rfl
    omega
  | cons c l =>
    exact ⟨c, l, rfl, (At.byte (s := s) (a := 0) (l := l) (by unfold At; simpa using hl)).1⟩
theorem ba_all {s : ByteArray} {f : Int → Bool} (h : ∀ j, j < s.size → f (bAt s j).toNat = true) : ∀ c ∈ s.data.toList, f c.toNat = true := fun c hc => by
  obtain ⟨j, hj, e⟩ := List.mem_iff_getElem.1 hc
  have h1 := h j (by rw [← ba_size]; exact hj)
  have : bAt s j = c := by
    unfold bAt
    rw [← Array.getElem?_toList, List.getElem?_eq_getElem hj, e]; rfl
  rwa [this] at h1
theorem word_ok {s : ByteArray} (h : isWord s = true) : 0 < s.size ∧ s.size ≤ 32 ∧ isLetter (bAt s 0).toNat = true ∧ ∀ c ∈ s.data.toList, nmc c.toNat = true := by
  have hm : s ∈ words := by
    unfold isWord at h
    obtain ⟨w, hw, e⟩ := List.any_eq_true.1 h
    rw [dtt] at e
    rw [e]; exact hw
  have hall : (words.all fun s => decide (0 < s.size) && decide (s.size ≤ 32) && isLetter (bAt s 0).toNat && s.data.toList.all fun c => nmc c.toNat) = true := by kernel_rfl
  have := List.all_eq_true.1 hall s hm
  simp only [Bool.and_eq_true, dtt, List.all_eq_true] at this
  exact ⟨this.1.1.1, this.1.1.2, this.1.2, this.2⟩
theorem letter_not {c : UInt8} (h : isLetter c.toNat = true) : isBlank c.toNat = false := by
  unfold isLetter at h
  unfold isBlank
  simp only [Bool.or_eq_true, Bool.and_eq_true, dtt, bqi] at h
  simp only [Bool.or_eq_false_iff, bqf, ne_eq]
  omega
theorem digit_not {c : UInt8} (h : isDigit c.toNat = true) : isBlank c.toNat = false ∧ isLetter c.toNat = false := by
  rw [isDigit_iff] at h
  unfold isBlank isLetter
  simp only [Bool.or_eq_false_iff, Bool.and_eq_false_iff, dff, bqf, ne_eq]
  omega
theorem At.blank {s : ByteArray} {a : Nat} {sp : List UInt8} {c : UInt8} {l : List UInt8} (h : At s a (sp ++ c :: l)) (hs : ∀ c ∈ sp, c = 32) (hc : isBlank c.toNat = false) : runOf isBlank s a = a + sp.length ∧ a + sp.length < s.size ∧ bAt s (a + sp.length) = c ∧ At s (a + sp.length) (c :: l) := by
  have h1 := At.run (p := isBlank) (l := c :: l) (fun d r e => by cases e; exact hc) h (fun d hd => by rw [hs d hd]; rfl)
  have h2 := h.app
  exact ⟨h1, h2.byte.2.1, h2.byte.1, h2⟩
theorem numAt_snoc {s : ByteArray} : ∀ (m i : Nat) (n : Int), numAt s (m + 1) i n = (numAt s m i n).bind fun r => if 10 * r + ((bAt s (i + m)).toNat - 48) > 9223372036854775807 then none else some (10 * r + ((bAt s (i + m)).toNat - 48))
  | 0, i, n => by simp only [numAt, Option.bind_some, adz]
  | m + 1, i, n => by
    rw [numAt]
    conv => rhs; rw [numAt]
    split
    · rfl
    · rw [numAt_snoc m (i + 1), show i + 1 + m = i + (m + 1) by omega]
theorem dig_byte {u : Nat} (h : u < 10) : isDigit ((UInt8.ofNat (48 + u)).toNat : Nat) = true ∧ (((UInt8.ofNat (48 + u)).toNat : Nat) : Int) - 48 = u := by
  have : (UInt8.ofNat (48 + u)).toNat = 48 + u := by simp; omega
  rw [this, isDigit_iff]
  omega
theorem dec_val {s : ByteArray} : ∀ (u i : Nat) (l : List UInt8), (u : Int) ≤ 9223372036854775807 → At s i (Lib.decDigits u ++ l) → numAt s (Lib.decDigits u).length i 0 = some (u : Int) := fun u => by
  induction u using Nat.strongRecOn with
  | ind u ih =>
    intro i l hu h
    by_cases h10 : u < 10
    · rw [Lib.decDigits, dif_pos h10] at h ⊢
      have hb := (At.byte (l := l) h).1
      have hd := (dig_byte h10).2
      rw [List.length_singleton, numAt, hb, if_neg (by omega), numAt]
      congr 1
      omega
    · rw [Lib.decDigits, dif_neg h10] at h ⊢
      rw [List.append_assoc] at h
      have h1 := ih (u / 10) (by omega) i _ (by omega) h
      have hb := (At.byte (l := l) h.app).1
      have hd := (dig_byte (u := u % 10) (by omega)).2
      rw [List.length_append, List.length_singleton, numAt_snoc, h1, Option.bind_some, hb, if_neg (by omega)]
      congr 1
      omega
theorem dec_dig : ∀ (u : Nat), (∀ c ∈ Lib.decDigits u, isDigit c.toNat = true) ∧ Lib.decDigits u ≠ [] := fun u => by
  induction u using Nat.strongRecOn with
  | ind u ih =>
    rw [Lib.decDigits]
    by_cases h10 : u < 10
    · rw [dif_pos h10]
      exact ⟨fun c hc => by rw [List.mem_singleton.1 hc]; exact (dig_byte h10).1, by simp⟩
    · rw [dif_neg h10]
      refine ⟨fun c hc => ?_, by simp⟩
      rcases List.mem_append.1 hc with hc | hc
      · exact (ih (u / 10) (by omega)).1 c hc
      · rw [List.mem_singleton.1 hc]; exact (dig_byte (by omega)).1
theorem txt_at {s : ByteArray} {l : List UInt8} (hl : ∀ c r, l = c :: r → c ≠ 39) : ∀ (w : List UInt8) (n k : Nat) (acc : ByteArray), At s k (quoteL w ++ 39 :: l) → (quoteL w).length < n →
    txt s n k acc = some (⟨(acc.data.toList ++ w).toArray⟩, k + (quoteL w).length + 1)
  | [], n, k, acc, h, hn => by
    obtain ⟨m, rfl⟩ : ∃ m, n = m + 1 := ⟨n - 1, by omega⟩
    obtain ⟨h1, h2, h3⟩ := At.byte (l := l) h
    rw [txt, if_pos h2, if_neg (by simp [h1]), if_neg]
    · simp [quoteL]
    · rintro ⟨h4, h5⟩
      cases l with
      | nil => have := h3.nil; omega
      | cons c r => exact hl c r rfl (by rw [← (At.byte (l := r) h3).1]; exact h5)
  | c :: w, n, k, acc, h, hn => by
    obtain ⟨m, rfl⟩ : ∃ m, n = m + 1 := ⟨n - 1, by omega⟩
    by_cases hc : c = 39
    · subst hc
      have e : quoteL (39 :: w) = 39 :: 39 :: quoteL w := rfl
      rw [e] at h hn ⊢
      obtain ⟨h1, h2, h3⟩ := At.byte (l := 39 :: (quoteL w ++ 39 :: l)) h
      obtain ⟨h4, h5, h6⟩ := At.byte (l := quoteL w ++ 39 :: l) h3
      rw [txt, if_pos h2, if_neg (by simp [h1]), if_pos ⟨h5, h4⟩, txt_at hl w m (k + 2) _ h6 (by simp only [lnc] at hn; omega)]
      simp [ByteArray.push]
      omega
    · have e : quoteL (c :: w) = c :: quoteL w := by simp [quoteL, hc]
      rw [e] at h hn ⊢
      obtain ⟨h1, h2, h3⟩ := At.byte (l := quoteL w ++ 39 :: l) h
      rw [txt, if_pos h2, if_pos (by rw [h1]; exact hc), h1, txt_at hl w m (k + 1) _ h3 (by simp only [lnc] at hn; omega)]
      simp [ByteArray.push]
      omega
theorem sign_at {s w : ByteArray} {i : Nat} {l : List UInt8} (hw : w ∈ signL) (h : At s i (w.data.toList ++ l)) (hi : i ≤ s.size) (hf : (w = bOpen ∨ w = bClose ∨ w = ⟨#[46]⟩ ∨ w = ⟨#[44]⟩ ∨ w = ⟨#[42]⟩) ∨ sepH l) : signM s i = w := by
  have e : signM s i = (signL.find? fun v => v.data.toList.isPrefixOf (w.data.toList ++ l)).getD ⟨#[]⟩ := by
    unfold signM
    congr 2
    funext v
    exact h.pre hi v
  rw [e]
  rcases hf with hf | hf
  · rcases hf with rfl | rfl | rfl | rfl | rfl <;> rfl
  · cases l with
    | nil =>
      simp only [signL, List.mem_cons, List.not_mem_nil, or_false] at hw
      rcases hw with rfl | rfl | rfl | rfl | rfl | rfl | rfl | rfl | rfl | rfl | rfl | rfl | rfl <;> rfl
    | cons c r =>
      simp only [signL, List.mem_cons, List.not_mem_nil, or_false] at hw
      rcases hf c r rfl with rfl | rfl | rfl | rfl | rfl <;> rcases hw with rfl | rfl | rfl | rfl | rfl | rfl | rfl | rfl | rfl | rfl | rfl | rfl | rfl <;> rfl
theorem lex_name {s : ByteArray} {a : Nat} {sp l : List UInt8} {w : ByteArray} (h : At s a (sp ++ w.data.toList ++ l)) (hs : ∀ c ∈ sp, c = 32) (h0 : 0 < w.size) (h32 : w.size ≤ 32) (hl : isLetter (bAt w 0).toNat = true) (hn : ∀ c ∈ w.data.toList, nmc c.toNat = true) (hf : sepH l) :
    oneM s a = (⟨if isWord w then 2 else 1, w, 0, a + sp.length⟩, a + sp.length + w.data.toList.length, 0) := by
  obtain ⟨c, r, e, eb⟩ := ba_ne h0
  rw [eb] at hl
  have h' : At s a (sp ++ c :: (r ++ l)) := by rw [e, List.append_assoc] at h; exact h
  obtain ⟨b1, b2, b3, b4⟩ := h'.blank hs (letter_not hl)
  have b5 : At s (a + sp.length) (w.data.toList ++ l) := by rw [e]; exact b4
  have hr := At.run (p := nmc) (hf.of (fun c => nmc c.toNat = false) (by decide)) b5 hn
  have hx := b5.sub
  rw [ba_list] at hx
  have hlen : w.data.toList.length ≤ 32 := by rw [ba_size]; exact h32
  unfold oneM
  rw [b1, if_neg (by omega), b3, if_pos hl]
  unfold nameM
  rw [hr, if_neg (by omega), hx]
  rfl
theorem one_lex {s : ByteArray} {a : Nat} {sp l : List UInt8} {k : Tk} (hk : TkOk k) (h : At s a (sp ++ k.bytes ++ l)) (hs : ∀ c ∈ sp, c = 32) (hf : k.free ∨ sepH l) :
    ∃ i, oneM s a = (⟨k.kd, k.tx, k.nm, i⟩, a + sp.length + k.bytes.length, 0) := by
  cases hk with
  | name hn =>
    rename_i w
    have hf' : sepH l := hf.resolve_left fun h => by have := h.1; simp at this
    refine ⟨a + sp.length, (lex_name (w := w) h hs hn.1 hn.2.1 hn.2.2.1 (ba_all hn.2.2.2.1) hf').trans ?_⟩
    rw [hn.2.2.2.2]; rfl
  | word hn =>
    rename_i w
    have hf' : sepH l := hf.resolve_left fun h => by have := h.1; simp at this
    obtain ⟨w1, w2, w3, w4⟩ := word_ok hn
    refine ⟨a + sp.length, (lex_name (w := w) h hs w1 w2 w3 w4 hf').trans ?_⟩
    rw [hn]; rfl
  | num h0 h1 =>
    rename_i n
    have hf' : sepH l := hf.resolve_left fun h => by have := h.1; simp at this
    obtain ⟨u, rfl⟩ : ∃ u : Nat, n = u := ⟨n.toNat, by omega⟩
    have eb : (Tk.mk 3 (itoaM (u : Int)) (u : Int)).bytes = Lib.decDigits u := by
      show (itoaM (u : Int)).data.toList = _
      unfold itoaM Lib.itoa
      rw [if_neg (by omega)]
      simp
    have et : itoaM (u : Int) = ⟨(Lib.decDigits u).toArray⟩ := by
      rw [← eb]; exact (ba_list _).symm
    rw [eb] at h ⊢
    obtain ⟨c, r, e⟩ : ∃ c r, Lib.decDigits u = c :: r := by
      cases hd : Lib.decDigits u with
      | nil => exact absurd hd (dec_dig u).2
      | cons c r => exact ⟨c, r, rfl⟩
    have hdc : isDigit c.toNat = true := (dec_dig u).1 c (by rw [e]; simp)
    have h' : At s a (sp ++ c :: (r ++ l)) := by rw [e, List.append_assoc] at h; exact h
    obtain ⟨b1, b2, b3, b4⟩ := h'.blank hs (digit_not hdc).1
    have b5 : At s (a + sp.length) (Lib.decDigits u ++ l) := by rw [e]; exact b4
    have hr := At.run (p := isDigit) (hf'.of (fun c => isDigit c.toNat = false) (by decide)) b5 (dec_dig u).1
    have hx := b5.sub
    have hv := dec_val u _ l h1 b5
    refine ⟨a + sp.length, ?_⟩
    unfold oneM
    rw [b1, if_neg (by omega), b3, if_neg (by rw [(digit_not hdc).2]; decide), if_pos hdc]
    unfold numberM
    rw [hr, show a + sp.length + (Lib.decDigits u).length - (a + sp.length) = (Lib.decDigits u).length by omega, hv, hx]
    simp only
    rw [if_neg, ← et]
    · rfl
    · rintro ⟨h4, h5⟩
      cases l with
      | nil => have := b5.app.nil; omega
      | cons d q =>
        rw [(At.byte (l := q) b5.app).1, hf'.of (fun c => isLetter c.toNat = false) (by decide) d q rfl] at h5
        cases h5
  | txt hn =>
    rename_i w
    have hf' : sepH l := hf.resolve_left fun h => absurd h.1 (by show ¬ (4 : Int) = 5; decide)
    have eb : (Tk.mk 4 w 0).bytes = 39 :: (quoteL w.data.toList ++ [39]) := rfl
    rw [eb] at h ⊢
    have h' : At s a (sp ++ 39 :: (quoteL w.data.toList ++ 39 :: l)) := by simpa using h
    obtain ⟨b1, b2, b3, b4⟩ := h'.blank hs (by decide)
    have b5 := b4.byte.2.2
    have hlen := b5.len
    rw [List.length_append, lnc] at hlen
    have ht := txt_at (hf'.of (fun c => c ≠ 39) (by decide)) w.data.toList s.size _ ⟨#[]⟩ b5 (by omega)
    refine ⟨a + sp.length, ?_⟩
    unfold oneM
    rw [b1, if_neg (by omega), b3, if_neg (by decide), if_neg (by decide), if_pos (by decide)]
    unfold textM
    rw [ht]
    simp only [nap]
    rw [ba_list, if_neg (by omega)]
    unfold errFix
    simp
    omega
  | sign hn =>
    rename_i w
    have eb : (Tk.mk 5 w 0).bytes = w.data.toList := rfl
    rw [eb] at h ⊢
    have hall : (signL.all fun w => decide (0 < w.size) && !isBlank (bAt w 0).toNat && !isLetter (bAt w 0).toNat && !isDigit (bAt w 0).toNat && decide (¬ ((bAt w 0).toNat : Int) = 39)) = true := by kernel_rfl
    have ha := List.all_eq_true.1 hall w hn
    simp only [Bool.and_eq_true, dtt, nt1] at ha
    obtain ⟨⟨⟨⟨a1, a2⟩, a3⟩, a4⟩, a5⟩ := ha
    obtain ⟨c, r, e, ec⟩ := ba_ne a1
    rw [ec] at a2 a3 a4 a5
    have h' : At s a (sp ++ c :: (r ++ l)) := by rw [e, List.append_assoc] at h; exact h
    obtain ⟨b1, b2, b3, b4⟩ := h'.blank hs a2
    have b5 : At s (a + sp.length) (w.data.toList ++ l) := by rw [e]; exact b4
    have hsg := sign_at hn b5 (by omega) (hf.imp (fun h => h.2) id)
    refine ⟨a + sp.length, ?_⟩
    unfold oneM
    rw [b1, if_neg (by omega), b3, if_neg (by rw [a3]; decide), if_neg (by rw [a4]; decide), if_neg a5, hsg, if_neg]
    · rfl
    · intro hh
      rw [hh] at a1
      exact absurd a1 (by decide)
/-- These bytes are cut into these tokens. -/
inductive Wr : List UInt8 → List Tk → Prop where
  | nil : Wr [] []
  | cons {sp l : List UInt8} {k : Tk} {t : List Tk} (hk : TkOk k) (hs : ∀ c ∈ sp, c = 32) (hf : k.free ∨ sepH l) (h : Wr l t) : Wr (sp ++ k.bytes ++ l) (k :: t)
theorem sepH_app {l l' : List UInt8} (h : sepH l) (h' : sepH l') : sepH (l ++ l') := fun c r e => by
  cases l with
  | nil => exact h' c r e
  | cons d l =>
    simp only [cap, List.cons.injEq] at e
    exact h c l (by rw [e.1])
theorem Wr.app {l l' : List UInt8} {t t' : List Tk} (h : Wr l t) (h' : Wr l' t') (hs : sepH l') : Wr (l ++ l') (t ++ t') := by
  induction h with
  | nil => exact h'
  | cons hk hsp hf _ ih =>
    rw [List.append_assoc, cap]
    exact .cons hk hsp (hf.imp id fun h => sepH_app h hs) ih
theorem Wr.sp {l : List UInt8} {k : Tk} {t : List Tk} (h : Wr l (k :: t)) : Wr (32 :: l) (k :: t) := by
  cases h with
  | cons hk hsp hf h =>
    rename_i sp l
    refine Wr.cons (sp := 32 :: sp) hk (fun c hc => ?_) hf h
    rcases List.mem_cons.1 hc with hc | hc
    · exact hc
    · exact hsp c hc
theorem Wr.one {k : Tk} (hk : TkOk k) : Wr k.bytes [k] := by
  have := Wr.cons (sp := []) hk (by simp) (.inr sepH_nil) .nil
  simpa using this
theorem Wr.word {k : Tk} {l : List UInt8} {t : List Tk} (hk : TkOk k) (hs : k.free ∨ sepH l) (h : Wr l t) : Wr (k.bytes ++ l) (k :: t) := by
  have := Wr.cons (sp := []) hk (by simp) hs h
  simpa using this
abbrev endT (i : Nat) : Tok := ⟨0, ⟨#[]⟩, 0, i⟩
theorem all_lex {s : ByteArray} {l : List UInt8} {t : List Tk} (h : Wr l t) : ∀ (n a : Nat) (acc : List Tok), At s a l → a ≤ s.size → t.length < n → (∀ k ∈ t, k.kd ≠ 0) → ∃ ts i, allL s n a acc = (acc ++ ts ++ [endT i], 0) ∧ ts.map Tok.k = t := by
  induction h with
  | nil =>
    intro n a acc h ha hn hk
    obtain ⟨m, rfl⟩ : ∃ m, n = m + 1 := ⟨n - 1, by simp at hn; omega⟩
    have h1 : a = s.size := by have := h.nil; omega
    have hr : runOf isBlank s a = s.size := by rw [runOf_stop (by omega), h1]
    have ho : oneM s a = (endT s.size, s.size, 0) := by unfold oneM; rw [hr, if_pos rfl]
    refine ⟨[], s.size, ?_, rfl⟩
    rw [allL, ho]
    simp
  | cons hk hs hf hw ih =>
    rename_i sp l k t
    intro n a acc h ha hn hkd
    obtain ⟨m, rfl⟩ : ∃ m, n = m + 1 := ⟨n - 1, by simp at hn; omega⟩
    obtain ⟨i, ho⟩ := one_lex hk h hs hf
    have h2 := h.app
    have h3 := h.len
    rw [List.length_append] at h2
    simp only [List.length_append] at h3
    obtain ⟨ts, j, e1, e2⟩ := ih m (a + sp.length + k.bytes.length) (acc ++ [⟨k.kd, k.tx, k.nm, i⟩]) (by rw [Nat.add_assoc]; exact h2) (by
      have := oneM_le (s := s) (a := a) ha
      rw [ho] at this; exact this) (by simp only [lnc] at hn; omega) (fun k' h' => hkd k' (by simp [h']))
    refine ⟨⟨k.kd, k.tx, k.nm, i⟩ :: ts, j, ?_, by simp [e2, Tok.k]⟩
    rw [allL, ho]
    simp only [ne_eq, not_true_eq_false, if_false, if_neg (hkd k (by simp)), e1]
    simp

end Go.Par
