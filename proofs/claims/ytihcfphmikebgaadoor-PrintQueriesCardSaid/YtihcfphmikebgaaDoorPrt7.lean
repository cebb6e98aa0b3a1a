import Derived.Test.YtihcfphmikebgaaDoorPrt6
namespace Go.Par
open Go Go.Am Go.Proofs Go.RowKit
set_option linter.unusedVariables false
set_option linter.unusedSimpArgs false

abbrev twoL : List ByteArray := [⟨#[60, 62]⟩, ⟨#[60, 61]⟩, ⟨#[62, 61]⟩]
abbrev oneL : List UInt8 := [40, 41, 44, 46, 42, 43, 45, 61, 60, 62]
def signL : List ByteArray := [⟨#[60, 62]⟩, ⟨#[60, 61]⟩, ⟨#[62, 61]⟩, ⟨#[40]⟩, ⟨#[41]⟩, ⟨#[44]⟩, ⟨#[46]⟩, ⟨#[42]⟩, ⟨#[43]⟩, ⟨#[45]⟩, ⟨#[61]⟩, ⟨#[60]⟩, ⟨#[62]⟩]
theorem signL_eq : signL = twoL ++ oneL.map fun c => ⟨#[c]⟩ := rfl
def matchAt (s : ByteArray) (i : Nat) (w : ByteArray) : Bool := decide (i + w.size ≤ s.size ∧ s.extract i (i + w.size) = w)
def signM (s : ByteArray) (i : Nat) : ByteArray := (signL.find? (matchAt s i)).getD ⟨#[]⟩
theorem pref_match {s w : ByteArray} {i : Nat} (hi : i ≤ s.size) : decide (w.size ≤ (s.extract i s.size).size ∧ (s.extract i s.size).extract 0 w.size = w) = matchAt s i w := by
  unfold matchAt
  apply decide_eq_decide.2
  rw [ByteArray.size_extract, Nat.min_self]
  constructor
  · rintro ⟨h1, h2⟩
    refine ⟨by omega, ?_⟩
    rw [← h2]
    apply ByteArray.ext
    simp
    congr 1
    omega
  · rintro ⟨h1, h2⟩
    refine ⟨by omega, ?_⟩
    conv => rhs; rw [← h2]
    apply ByteArray.ext
    simp
    congr 1
    omega
theorem match_one {s : ByteArray} {i : Nat} {c : UInt8} (hi : i < s.size) : matchAt s i ⟨#[c]⟩ = decide (bAt s i = c) := by
  unfold matchAt
  apply decide_eq_decide.2
  have hsz : ({ data := #[c] } : ByteArray).size = 1 := rfl
  rw [hsz]
  have h1 : s.extract i (i + 1) = ⟨#[bAt s i]⟩ := by
    have := @app_one ⟨#[]⟩ s i hi
    apply ByteArray.ext
    have e := congrArg ByteArray.data this
    rw [ByteArray.data_append] at e
    simpa [ByteArray.push] using e
  rw [h1]
  constructor
  · rintro ⟨_, h⟩
    have := congrArg (fun b : ByteArray => b.data.toList) h
    simpa using this
  · intro h; subst h; exact ⟨by omega, rfl⟩
theorem match_over {s w : ByteArray} {i : Nat} (hi : s.size ≤ i) (hw : 0 < w.size) : matchAt s i w = false := by
  unfold matchAt
  simp; omega
theorem signM_over {s : ByteArray} {i : Nat} (hi : s.size ≤ i) : signM s i = ⟨#[]⟩ := by
  have : signL.find? (matchAt s i) = none := by
    rw [List.find?_eq_none]
    intro w hw
    have hw0 : 0 < w.size := by
      simp only [signL, List.mem_cons, List.not_mem_nil, or_false] at hw
      rcases hw with h | h | h | h | h | h | h | h | h | h | h | h | h <;> subst h <;> decide
    rw [match_over hi hw0]
    simp
  simp [signM, this]
theorem signM_two {s w : ByteArray} {i : Nat} (h : twoL.find? (matchAt s i) = some w) : signM s i = w := by
  simp only [signM, signL_eq, List.find?_append, h]
  rfl
theorem signM_one {s : ByteArray} {i : Nat} (hi : i < s.size) (h : twoL.find? (matchAt s i) = none) : signM s i = if oneL.contains (bAt s i) then s.extract i (i + 1) else ⟨#[]⟩ := by
  simp only [signM, signL_eq, List.find?_append, h, Option.none_or, List.find?_map]
  have h1 : s.extract i (i + 1) = ⟨#[bAt s i]⟩ := by
    have := @app_one ⟨#[]⟩ s i hi
    apply ByteArray.ext
    have e := congrArg ByteArray.data this
    rw [ByteArray.data_append] at e
    simpa [ByteArray.push] using e
  have hf : (matchAt s i ∘ fun c => (⟨#[c]⟩ : ByteArray)) = fun c => decide (bAt s i = c) := by
    funext c; exact match_one hi
  rw [hf, h1]
  generalize bAt s i = c
  have key : ∀ l : List UInt8, (Option.map (fun c => (⟨#[c]⟩ : ByteArray)) (l.find? fun d => decide (c = d))).getD ⟨#[]⟩ = if l.contains c then ⟨#[c]⟩ else ⟨#[]⟩ := by
    intro l
    induction l with
    | nil => rfl
    | cons d l ih =>
      rw [List.find?_cons]
      by_cases e : c = d
      · subst e; simp
      · simp only [e, decide_false]
        rw [ih]
        simp [e]
  exact key oneL
theorem u8_lit {c : UInt8} {n : Nat} (hn : n < 256) : ((c.toNat : Nat) : Int) = (n : Int) ↔ c = UInt8.ofNat n := by
  constructor
  · intro h
    apply UInt8.toNat_inj.1
    rw [UInt8.toNat_ofNat']
    omega
  · intro h; subst h
    rw [UInt8.toNat_ofNat']
    omega
theorem sign_len (j : Nat) : (signL.getD j ⟨#[]⟩).size ≤ 2 := by
  match j with
  | 0 | 1 | 2 | 3 | 4 | 5 | 6 | 7 | 8 | 9 | 10 | 11 | 12 => decide
  | n + 13 => exact Nat.zero_le _
theorem to_nat_add {i n : Nat} : ((i : Int) + (n : Int)).toNat = i + n := by omega
theorem sign_hit {s w : ByteArray} {i : Nat} (h1 : (i : Int) ≤ s.size - w.size) (h2 : s.extract i ((i : Int) + w.size).toNat = w) : matchAt s i w = true := by
  rw [to_nat_add] at h2
  unfold matchAt
  rw [dtt]
  exact ⟨by omega, h2⟩
theorem sign_miss1 {s w : ByteArray} {i : Nat} (h1 : (s.size : Int) - w.size < i) : matchAt s i w = false := by
  unfold matchAt
  rw [dff]
  rintro ⟨h, _⟩; omega
theorem sign_miss2 {s w : ByteArray} {i : Nat} (h2 : ¬ s.extract i ((i : Int) + w.size).toNat = w) : matchAt s i w = false := by
  rw [to_nat_add] at h2
  unfold matchAt
  rw [dff]
  rintro ⟨_, h⟩; exact h2 h
theorem u8c {c d : UInt8} : ((c.toNat : Nat) : Int) = ((d.toNat : Nat) : Int) ↔ c = d := by
  constructor
  · intro h; exact UInt8.toNat_inj.1 (by omega)
  · intro h; subst h; rfl
theorem one_iff {c : UInt8} : oneL.contains c = true ↔ ((c.toNat : Nat) : Int) = 40 ∨ ((c.toNat : Nat) : Int) = 41 ∨ ((c.toNat : Nat) : Int) = 44 ∨ ((c.toNat : Nat) : Int) = 46 ∨ ((c.toNat : Nat) : Int) = 42 ∨ ((c.toNat : Nat) : Int) = 43 ∨ ((c.toNat : Nat) : Int) = 45 ∨ ((c.toNat : Nat) : Int) = 61 ∨ ((c.toNat : Nat) : Int) = 60 ∨ ((c.toNat : Nat) : Int) = 62 := by
  rw [List.contains_iff_mem]
  simp only [List.mem_cons, List.not_mem_nil, or_false]
  rw [← u8c (d := 40), ← u8c (d := 41), ← u8c (d := 44), ← u8c (d := 46), ← u8c (d := 42), ← u8c (d := 43), ← u8c (d := 45), ← u8c (d := 61), ← u8c (d := 60), ← u8c (d := 62)]
  rfl

theorem en_85 : enters Tryd.prog 85 = true := by kernel_rfl
theorem un_60 : Tryd.prog.underlying 60 = some (TypeDesc.slice 9) := by kernel_rfl


theorem psign_s (s : ByteArray) (i : Nat) (hs : s.size ≤ 10000000000000) (hi : i ≤ s.size) : Am.Spec Tryd.prog 70 [A.val (.string s), A.i64 (i : Int)] [] (A.val (.string (signM s i))) [] := by
  refine spec_ofN (n := 47) Tryd.func70 rfl rfl (nb rfl) ?_
  show AW _ _ (⟨[(0, A.val (.string s)), (1, A.i64 (i : Int))], [], []⟩ : St) _
  refine AW.seq ?_
  refine AW.region ?_
  refine AL.go (OpR.plain rfl (r_assign rfl (nb rfl) (by rintro _ ⟨⟩; rfl))) ?_
  refine AL.nil ?_
  refine thenN ?_
  refine AW.seq ?_
  refine AW.seq ?_
  refine AW.region ?_
  refine AL.go (OpR.plain rfl (r_move rfl (nb rfl) (by rintro _ ⟨⟩))) ?_
  refine AL.go (OpR.plain rfl (r_bin rfl rfl (nb rfl) rfl (run_int_lss _ _ _))) ?_
  refine AL.go (OpR.plain rfl (r_move rfl (nb rfl) (by rintro _ ⟨⟩))) ?_
  refine AL.ifb (t := 9) rfl (fun h1 => ?_) (fun h1 => ?_)
  · exact absurd h1 (by simp)
  · have h1n := h1; try simp only [dtt, dff, bqi, bqf, bni, bnf, nt1, nf1, nt0, nf0, ne_eq, ilt, ile, Int.toNat_natCast, List.length_map] at h1n
    refine AL.go (OpR.onb rfl rfl (nb rfl) rfl (h1) (r_move rfl (nb rfl) (by rintro _ ⟨⟩))) ?_
    refine AL.go (OpR.onb rfl rfl (nb rfl) rfl (h1) (r_move rfl (nb rfl) (by rintro _ ⟨⟩))) ?_
    refine AL.go (OpR.onb rfl rfl (nb rfl) rfl (h1) (r_lens un_9 rfl (nb rfl))) ?_
    refine AL.go (OpR.onb rfl rfl (nb rfl) rfl (h1) (r_bin rfl rfl (nb rfl) rfl (run_int_geq _ _ _))) ?_
    refine AL.go (OpR.plain rfl (r_pickFb rfl (h1) rfl (nb rfl) (by rintro _ ⟨⟩))) ?_
    refine AL.nil ?_
    refine thenN ?_
    refine AW.condb rfl (fun h2 => ?_) (fun h2 => ?_)
    · have h2n := h2; try simp only [dtt, dff, bqi, bqf, bni, bnf, nt1, nf1, nt0, nf0, ne_eq, ilt, ile, Int.toNat_natCast, List.length_map] at h2n
      refine AW.seq ?_
      refine AW.region ?_
      refine AL.go (OpR.plain rfl (r_assign rfl (nb rfl) (by rintro _ ⟨⟩; rfl))) ?_
      refine AL.nil ?_
      refine thenN ?_
      refine AW.ret ?_
      refine thenR ?_
      refine fin_id (.inr rfl) (ends_of rfl (.tmp rfl .nil)) ?_ .nil rfl rfl rfl rfl
      simp only [retA]
      refine A.le_of_eq ?_
      first | (rw [signM_over (by omega)]; done) | (have hz := hI.2; rw [find_step (i := iI) (by rw [hw]; omega), if_pos (by rw [← pref_match hi]; assumption)] at hz; rw [signM_two hz.symm]; try simp) | (have hz := hI.2; have he : iI = 3 := (by omega); rw [he] at hz; rw [signM_one (by omega) hz.symm]; first | (rw [if_pos (one_iff.2 (by omega))]; try simp) | (rw [if_neg (fun hh => by have := one_iff.1 hh; omega)]))
    · have h2n := h2; try simp only [dtt, dff, bqi, bqf, bni, bnf, nt1, nf1, nt0, nf0, ne_eq, ilt, ile, Int.toNat_natCast, List.length_map] at h2n
      refine AW.skip ?_
      refine thenN ?_
      refine AW.seq ?_
      refine AW.seq ?_
      refine AW.region ?_
      refine AL.go (OpR.plain rfl (r_buildSlice un_60 ti_9 rfl rfl rfl rfl rfl (by decide) (by decide) rfl (nb rfl))) ?_
      refine AL.go (OpR.plain rfl (r_len un_60 rfl (by first | exact .sl | exact .own | exact .row | exact .nil) (by intro _ h; cases h) (nb rfl) (by rintro _ ⟨⟩))) ?_
      refine AL.go (OpR.plain rfl (r_move rfl (nb rfl) (by rintro _ ⟨⟩; rfl))) ?_
      refine AL.nil ?_
      refine thenN ?_
      refine AW.block ?_
      refine AW.loop (ι := { x : Nat // x ≤ 3 ∧ (twoL.drop x).find? (matchAt s i) = twoL.find? (matchAt s i) }) (fun x => ⟨[(0, A.val (.string s)), (1, A.i64 (i : Int)), (15, A.c (.d (.sl true (strRows twoL)))), (16, A.i64 3), (17, A.i64 (x.1 : Int))], [], []⟩) (fun x => 3 - x.1) ⟨0, by simp⟩ (weakens_id (.cons rfl (A.le_of_eq (by first | rfl | (simp [A.ren, C.ren, renOf, lk]; done) | (simp [A.ren, C.ren, renOf, lk]; omega) | omega)) (.cons rfl (A.le_of_eq (by first | rfl | (simp [A.ren, C.ren, renOf, lk]; done) | (simp [A.ren, C.ren, renOf, lk]; omega) | omega)) (.cons rfl (A.le_of_eq (by first | rfl | (simp [A.ren, C.ren, renOf, lk]; done) | (simp [A.ren, C.ren, renOf, lk]; omega) | omega)) (.cons rfl (A.le_of_eq (by first | rfl | (simp [A.ren, C.ren, renOf, lk]; done) | (simp [A.ren, C.ren, renOf, lk]; omega) | omega)) (.cons rfl (A.le_of_eq (by first | rfl | (simp [A.ren, C.ren, renOf, lk]; done) | (simp [A.ren, C.ren, renOf, lk]; omega) | omega)) .nil))))) .nil rfl rfl rfl rfl) ?_
      rintro ⟨iI, hI⟩
      have hw : twoL.length = 3 := rfl; have hIa := hI.1
      show AW _ _ (⟨[(0, A.val (.string s)), (1, A.i64 (i : Int)), (15, A.c (.d (.sl true (strRows twoL)))), (16, A.i64 3), (17, A.i64 (iI : Int))], [], []⟩ : St) _
      refine AW.seq ?_
      refine AW.region ?_
      refine AL.go (OpR.plain rfl (r_bin rfl rfl (nb rfl) rfl (run_int_lss _ _ _))) ?_
      refine AL.nil ?_
      refine thenN ?_
      refine AW.seq ?_
      refine AW.condb rfl (fun h3 => ?_) (fun h3 => ?_)
      · have h3n := h3; try simp only [dtt, dff, bqi, bqf, bni, bnf, nt1, nf1, nt0, nf0, ne_eq, ilt, ile, Int.toNat_natCast, List.length_map] at h3n
        refine AW.skip ?_
        refine thenN ?_
        refine AW.seq ?_
        refine AW.block ?_
        refine AW.seq ?_
        refine AW.region ?_
        refine AL.go (OpR.plain rfl (r_indexAddr un_60 ti_9 rfl (by first | exact .inl rfl | exact .inr ⟨_, rfl⟩) rfl str_len (by first | omega | (simp only [Int.toNat_natCast, List.length_map] at *; omega)) (str_at (by omega) (by first | assumption | (simp only [List.length_map] at *; omega))) (nb rfl))) ?_
        first | refine AL.go (OpR.plain rfl (r_load ti_9 rfl rfl rfl (nb rfl))) ?_ | refine AL.go (OpR.plain rfl (r_loadp ti_9 rfl rfl (nb rfl))) ?_
        refine AL.go (OpR.plain rfl (r_assign rfl (nb rfl) (by rintro _ ⟨⟩))) ?_
        refine AL.nil ?_
        refine thenN ?_
        refine AW.seq ?_
        refine AW.region ?_
        refine AL.go (OpR.plain rfl (r_move rfl (nb rfl) (by rintro _ ⟨⟩))) ?_
        refine AL.go (OpR.plain rfl (r_move rfl (nb rfl) (by rintro _ ⟨⟩))) ?_
        refine AL.go (OpR.plain rfl (r_substrFrom un_9 rfl rfl (nb rfl) (by first | omega | (simp only [Int.toNat_natCast, List.length_map] at *; omega)) (by first | omega | (simp only [Int.toNat_natCast, List.length_map] at *; omega)))) ?_
        refine AL.go (OpR.plain rfl (r_move rfl (nb rfl) (by rintro _ ⟨⟩))) ?_
        refine AL.go (OpR.plain rfl (r_callFun (pref_s _ _ (by simp; omega)) en_85 rfl rfl rfl rfl (.cons (A.le_refl _) (.cons (A.le_refl _) .nil)) rfl (nb rfl))) ?_
        refine AL.nil ?_
        refine thenN ?_
        refine AW.condb rfl (fun h4 => ?_) (fun h4 => ?_)
        · have h4n := h4; try simp only [dtt, dff, bqi, bqf, bni, bnf, nt1, nf1, nt0, nf0, ne_eq, ilt, ile, Int.toNat_natCast, List.length_map] at h4n
          refine AW.seq ?_
          refine AW.region ?_
          refine AL.go (OpR.plain rfl (r_move rfl (nb rfl) (by rintro _ ⟨⟩))) ?_
          refine AL.go (OpR.plain rfl (r_assign rfl (nb rfl) (by rintro _ ⟨⟩))) ?_
          refine AL.nil ?_
          refine thenN ?_
          refine AW.ret ?_
          refine inbR ?_
          refine thenR ?_
          refine thenR ?_
          refine inbR ?_
          refine thenR ?_
          refine fin_id (.inr rfl) (ends_of rfl (.tmp rfl .nil)) ?_ .nil rfl rfl rfl rfl
          simp only [retA]
          refine A.le_of_eq ?_
          first | (rw [signM_over (by omega)]; done) | (have hz := hI.2; rw [find_step (i := iI) (by rw [hw]; omega), if_pos (by rw [← pref_match hi]; assumption)] at hz; rw [signM_two hz.symm]; try simp) | (have hz := hI.2; have he : iI = 3 := (by omega); rw [he] at hz; rw [signM_one (by omega) hz.symm]; first | (rw [if_pos (one_iff.2 (by omega))]; try simp) | (rw [if_neg (fun hh => by have := one_iff.1 hh; omega)]))
        · have h4n := h4; try simp only [dtt, dff, bqi, bqf, bni, bnf, nt1, nf1, nt0, nf0, ne_eq, ilt, ile, Int.toNat_natCast, List.length_map] at h4n
          refine AW.skip ?_
          refine inbN ?_
          refine thenN ?_
          refine AW.region ?_
          refine AL.go (OpR.plain rfl (r_add rfl rfl (nb rfl) (by first | omega | (simp only [Int.toNat_natCast, List.length_map] at *; omega)) (by first | omega | (simp only [Int.toNat_natCast, List.length_map] at *; omega)))) ?_
          refine AL.go (OpR.plain rfl (r_move rfl (nb rfl) (by rintro _ ⟨⟩))) ?_
          refine AL.nil ?_
          refine thenN ?_
          have hm : matchAt s i (twoL.getD iI ⟨#[]⟩) = false := by rw [← pref_match hi]; assumption
          refine ⟨⟨iI + 1, by exact ⟨by omega, by rw [← hI.2, find_step (i := iI) (by rw [hw]; omega), hm]; rfl⟩⟩, by simp only; omega, weakens_id (.cons rfl (A.le_of_eq (by first | rfl | (simp [A.ren, C.ren, renOf, lk]; done) | (simp [A.ren, C.ren, renOf, lk]; omega) | omega)) (.cons rfl (A.le_of_eq (by first | rfl | (simp [A.ren, C.ren, renOf, lk]; done) | (simp [A.ren, C.ren, renOf, lk]; omega) | omega)) (.cons rfl (A.le_of_eq (by first | rfl | (simp [A.ren, C.ren, renOf, lk]; done) | (simp [A.ren, C.ren, renOf, lk]; omega) | omega)) (.cons rfl (A.le_of_eq (by first | rfl | (simp [A.ren, C.ren, renOf, lk]; done) | (simp [A.ren, C.ren, renOf, lk]; omega) | omega)) (.cons rfl (A.le_of_eq (by first | rfl | (simp [A.ren, C.ren, renOf, lk]; done) | (simp [A.ren, C.ren, renOf, lk]; omega) | omega)) .nil))))) .nil rfl rfl rfl rfl⟩
      · have h3n := h3; try simp only [dtt, dff, bqi, bqf, bni, bnf, nt1, nf1, nt0, nf0, ne_eq, ilt, ile, Int.toNat_natCast, List.length_map] at h3n
        refine AW.exit ?_
        refine thenX ?_
        refine thenX ?_
        refine inbE ?_
        refine thenN ?_
        refine AW.seq ?_
        refine AW.seq ?_
        refine AW.region ?_
        refine AL.go (OpR.plain rfl (r_move rfl (nb rfl) (by rintro _ ⟨⟩))) ?_
        refine AL.go (OpR.plain rfl (r_move rfl (nb rfl) (by rintro _ ⟨⟩))) ?_
        refine AL.go (OpR.plain rfl (r_byteD un_9 rfl rfl (nb rfl) (by first | omega | (simp only [Int.toNat_natCast, List.length_map] at *; omega)) (by first | omega | (simp only [Int.toNat_natCast, List.length_map] at *; omega)))) ?_
        refine AL.nil ?_
        refine thenN ?_
        refine AW.block ?_
        refine AW.seq ?_
        refine AW.seq ?_
        refine AW.region ?_
        refine AL.go (OpR.plain rfl (r_bin rfl rfl (nb rfl) rfl (run_int_eql _ _ _))) ?_
        refine AL.go (OpR.plain rfl (r_assign rfl (nb rfl) (by rintro _ ⟨⟩))) ?_
        refine AL.nil ?_
        refine thenN ?_
        refine AW.condb rfl (fun h5 => ?_) (fun h5 => ?_)
        · have h5n := h5; try simp only [dtt, dff, bqi, bqf, bni, bnf, nt1, nf1, nt0, nf0, ne_eq, ilt, ile, Int.toNat_natCast, List.length_map] at h5n
          refine AW.skip ?_
          refine thenN ?_
          refine AW.condT rfl (h5) ?_
          refine AW.seq ?_
          refine AW.region ?_
          refine AL.go (OpR.plain rfl (r_move rfl (nb rfl) (by rintro _ ⟨⟩))) ?_
          refine AL.go (OpR.plain rfl (r_move rfl (nb rfl) (by rintro _ ⟨⟩))) ?_
          refine AL.go (OpR.plain rfl (r_move rfl (nb rfl) (by rintro _ ⟨⟩))) ?_
          refine AL.go (OpR.plain rfl (r_add rfl rfl (nb rfl) (by first | omega | (simp only [Int.toNat_natCast, List.length_map] at *; omega)) (by first | omega | (simp only [Int.toNat_natCast, List.length_map] at *; omega)))) ?_
          refine AL.go (OpR.plain rfl (r_substr un_9 rfl rfl rfl (nb rfl) (by first | omega | (simp only [Int.toNat_natCast, List.length_map] at *; omega)) (by first | omega | (simp only [Int.toNat_natCast, List.length_map] at *; omega)) (by first | omega | (simp only [Int.toNat_natCast, List.length_map] at *; omega)))) ?_
          refine AL.go (OpR.plain rfl (r_assign rfl (nb rfl) (by rintro _ ⟨⟩))) ?_
          refine AL.nil ?_
          refine thenN ?_
          refine AW.ret ?_
          refine inbR ?_
          refine thenR ?_
          refine fin_id (.inr rfl) (ends_of rfl (.tmp rfl .nil)) ?_ .nil rfl rfl rfl rfl
          simp only [retA]
          refine A.le_of_eq ?_
          first | (rw [signM_over (by omega)]; done) | (have hz := hI.2; rw [find_step (i := iI) (by rw [hw]; omega), if_pos (by rw [← pref_match hi]; assumption)] at hz; rw [signM_two hz.symm]; try simp) | (have hz := hI.2; have he : iI = 3 := (by omega); rw [he] at hz; rw [signM_one (by omega) hz.symm]; first | (rw [if_pos (one_iff.2 (by omega))]; try simp) | (rw [if_neg (fun hh => by have := one_iff.1 hh; omega)]))
        · have h5n := h5; try simp only [dtt, dff, bqi, bqf, bni, bnf, nt1, nf1, nt0, nf0, ne_eq, ilt, ile, Int.toNat_natCast, List.length_map] at h5n
          refine AW.seq ?_
          refine AW.region ?_
          refine AL.go (OpR.plain rfl (r_bin rfl rfl (nb rfl) rfl (run_int_eql _ _ _))) ?_
          refine AL.go (OpR.plain rfl (r_assign rfl (nb rfl) (by rintro _ ⟨⟩))) ?_
          refine AL.nil ?_
          refine thenN ?_
          refine AW.condb rfl (fun h6 => ?_) (fun h6 => ?_)
          · have h6n := h6; try simp only [dtt, dff, bqi, bqf, bni, bnf, nt1, nf1, nt0, nf0, ne_eq, ilt, ile, Int.toNat_natCast, List.length_map] at h6n
            refine AW.skip ?_
            refine thenN ?_
            refine AW.condT rfl (h6) ?_
            refine AW.seq ?_
            refine AW.region ?_
            refine AL.go (OpR.plain rfl (r_move rfl (nb rfl) (by rintro _ ⟨⟩))) ?_
            refine AL.go (OpR.plain rfl (r_move rfl (nb rfl) (by rintro _ ⟨⟩))) ?_
            refine AL.go (OpR.plain rfl (r_move rfl (nb rfl) (by rintro _ ⟨⟩))) ?_
            refine AL.go (OpR.plain rfl (r_add rfl rfl (nb rfl) (by first | omega | (simp only [Int.toNat_natCast, List.length_map] at *; omega)) (by first | omega | (simp only [Int.toNat_natCast, List.length_map] at *; omega)))) ?_
            refine AL.go (OpR.plain rfl (r_substr un_9 rfl rfl rfl (nb rfl) (by first | omega | (simp only [Int.toNat_natCast, List.length_map] at *; omega)) (by first | omega | (simp only [Int.toNat_natCast, List.length_map] at *; omega)) (by first | omega | (simp only [Int.toNat_natCast, List.length_map] at *; omega)))) ?_
            refine AL.go (OpR.plain rfl (r_assign rfl (nb rfl) (by rintro _ ⟨⟩))) ?_
            refine AL.nil ?_
            refine thenN ?_
            refine AW.ret ?_
            refine inbR ?_
            refine thenR ?_
            refine fin_id (.inr rfl) (ends_of rfl (.tmp rfl .nil)) ?_ .nil rfl rfl rfl rfl
            simp only [retA]
            refine A.le_of_eq ?_
            first | (rw [signM_over (by omega)]; done) | (have hz := hI.2; rw [find_step (i := iI) (by rw [hw]; omega), if_pos (by rw [← pref_match hi]; assumption)] at hz; rw [signM_two hz.symm]; try simp) | (have hz := hI.2; have he : iI = 3 := (by omega); rw [he] at hz; rw [signM_one (by omega) hz.symm]; first | (rw [if_pos (one_iff.2 (by omega))]; try simp) | (rw [if_neg (fun hh => by have := one_iff.1 hh; omega)]))
          · have h6n := h6; try simp only [dtt, dff, bqi, bqf, bni, bnf, nt1, nf1, nt0, nf0, ne_eq, ilt, ile, Int.toNat_natCast, List.length_map] at h6n
            refine AW.seq ?_
            refine AW.region ?_
            refine AL.go (OpR.plain rfl (r_bin rfl rfl (nb rfl) rfl (run_int_eql _ _ _))) ?_
            refine AL.go (OpR.plain rfl (r_assign rfl (nb rfl) (by rintro _ ⟨⟩))) ?_
            refine AL.nil ?_
            refine thenN ?_
            refine AW.condb rfl (fun h7 => ?_) (fun h7 => ?_)
            · have h7n := h7; try simp only [dtt, dff, bqi, bqf, bni, bnf, nt1, nf1, nt0, nf0, ne_eq, ilt, ile, Int.toNat_natCast, List.length_map] at h7n
              refine AW.skip ?_
              refine thenN ?_
              refine AW.condT rfl (h7) ?_
              refine AW.seq ?_
              refine AW.region ?_
              refine AL.go (OpR.plain rfl (r_move rfl (nb rfl) (by rintro _ ⟨⟩))) ?_
              refine AL.go (OpR.plain rfl (r_move rfl (nb rfl) (by rintro _ ⟨⟩))) ?_
              refine AL.go (OpR.plain rfl (r_move rfl (nb rfl) (by rintro _ ⟨⟩))) ?_
              refine AL.go (OpR.plain rfl (r_add rfl rfl (nb rfl) (by first | omega | (simp only [Int.toNat_natCast, List.length_map] at *; omega)) (by first | omega | (simp only [Int.toNat_natCast, List.length_map] at *; omega)))) ?_
              refine AL.go (OpR.plain rfl (r_substr un_9 rfl rfl rfl (nb rfl) (by first | omega | (simp only [Int.toNat_natCast, List.length_map] at *; omega)) (by first | omega | (simp only [Int.toNat_natCast, List.length_map] at *; omega)) (by first | omega | (simp only [Int.toNat_natCast, List.length_map] at *; omega)))) ?_
              refine AL.go (OpR.plain rfl (r_assign rfl (nb rfl) (by rintro _ ⟨⟩))) ?_
              refine AL.nil ?_
              refine thenN ?_
              refine AW.ret ?_
              refine inbR ?_
              refine thenR ?_
              refine fin_id (.inr rfl) (ends_of rfl (.tmp rfl .nil)) ?_ .nil rfl rfl rfl rfl
              simp only [retA]
              refine A.le_of_eq ?_
              first | (rw [signM_over (by omega)]; done) | (have hz := hI.2; rw [find_step (i := iI) (by rw [hw]; omega), if_pos (by rw [← pref_match hi]; assumption)] at hz; rw [signM_two hz.symm]; try simp) | (have hz := hI.2; have he : iI = 3 := (by omega); rw [he] at hz; rw [signM_one (by omega) hz.symm]; first | (rw [if_pos (one_iff.2 (by omega))]; try simp) | (rw [if_neg (fun hh => by have := one_iff.1 hh; omega)]))
            · have h7n := h7; try simp only [dtt, dff, bqi, bqf, bni, bnf, nt1, nf1, nt0, nf0, ne_eq, ilt, ile, Int.toNat_natCast, List.length_map] at h7n
              refine AW.seq ?_
              refine AW.region ?_
              refine AL.go (OpR.plain rfl (r_bin rfl rfl (nb rfl) rfl (run_int_eql _ _ _))) ?_
              refine AL.go (OpR.plain rfl (r_assign rfl (nb rfl) (by rintro _ ⟨⟩))) ?_
              refine AL.nil ?_
              refine thenN ?_
              refine AW.condb rfl (fun h8 => ?_) (fun h8 => ?_)
              · have h8n := h8; try simp only [dtt, dff, bqi, bqf, bni, bnf, nt1, nf1, nt0, nf0, ne_eq, ilt, ile, Int.toNat_natCast, List.length_map] at h8n
                refine AW.skip ?_
                refine thenN ?_
                refine AW.condT rfl (h8) ?_
                refine AW.seq ?_
                refine AW.region ?_
                refine AL.go (OpR.plain rfl (r_move rfl (nb rfl) (by rintro _ ⟨⟩))) ?_
                refine AL.go (OpR.plain rfl (r_move rfl (nb rfl) (by rintro _ ⟨⟩))) ?_
                refine AL.go (OpR.plain rfl (r_move rfl (nb rfl) (by rintro _ ⟨⟩))) ?_
                refine AL.go (OpR.plain rfl (r_add rfl rfl (nb rfl) (by first | omega | (simp only [Int.toNat_natCast, List.length_map] at *; omega)) (by first | omega | (simp only [Int.toNat_natCast, List.length_map] at *; omega)))) ?_
                refine AL.go (OpR.plain rfl (r_substr un_9 rfl rfl rfl (nb rfl) (by first | omega | (simp only [Int.toNat_natCast, List.length_map] at *; omega)) (by first | omega | (simp only [Int.toNat_natCast, List.length_map] at *; omega)) (by first | omega | (simp only [Int.toNat_natCast, List.length_map] at *; omega)))) ?_
                refine AL.go (OpR.plain rfl (r_assign rfl (nb rfl) (by rintro _ ⟨⟩))) ?_
                refine AL.nil ?_
                refine thenN ?_
                refine AW.ret ?_
                refine inbR ?_
                refine thenR ?_
                refine fin_id (.inr rfl) (ends_of rfl (.tmp rfl .nil)) ?_ .nil rfl rfl rfl rfl
                simp only [retA]
                refine A.le_of_eq ?_
                first | (rw [signM_over (by omega)]; done) | (have hz := hI.2; rw [find_step (i := iI) (by rw [hw]; omega), if_pos (by rw [← pref_match hi]; assumption)] at hz; rw [signM_two hz.symm]; try simp) | (have hz := hI.2; have he : iI = 3 := (by omega); rw [he] at hz; rw [signM_one (by omega) hz.symm]; first | (rw [if_pos (one_iff.2 (by omega))]; try simp) | (rw [if_neg (fun hh => by have := one_iff.1 hh; omega)]))
              · have h8n := h8; try simp only [dtt, dff, bqi, bqf, bni, bnf, nt1, nf1, nt0, nf0, ne_eq, ilt, ile, Int.toNat_natCast, List.length_map] at h8n
                refine AW.seq ?_
                refine AW.region ?_
                refine AL.go (OpR.plain rfl (r_bin rfl rfl (nb rfl) rfl (run_int_eql _ _ _))) ?_
                refine AL.go (OpR.plain rfl (r_assign rfl (nb rfl) (by rintro _ ⟨⟩))) ?_
                refine AL.nil ?_
                refine thenN ?_
                refine AW.condb rfl (fun h9 => ?_) (fun h9 => ?_)
                · have h9n := h9; try simp only [dtt, dff, bqi, bqf, bni, bnf, nt1, nf1, nt0, nf0, ne_eq, ilt, ile, Int.toNat_natCast, List.length_map] at h9n
                  refine AW.skip ?_
                  refine thenN ?_
                  refine AW.condT rfl (h9) ?_
                  refine AW.seq ?_
                  refine AW.region ?_
                  refine AL.go (OpR.plain rfl (r_move rfl (nb rfl) (by rintro _ ⟨⟩))) ?_
                  refine AL.go (OpR.plain rfl (r_move rfl (nb rfl) (by rintro _ ⟨⟩))) ?_
                  refine AL.go (OpR.plain rfl (r_move rfl (nb rfl) (by rintro _ ⟨⟩))) ?_
                  refine AL.go (OpR.plain rfl (r_add rfl rfl (nb rfl) (by first | omega | (simp only [Int.toNat_natCast, List.length_map] at *; omega)) (by first | omega | (simp only [Int.toNat_natCast, List.length_map] at *; omega)))) ?_
                  refine AL.go (OpR.plain rfl (r_substr un_9 rfl rfl rfl (nb rfl) (by first | omega | (simp only [Int.toNat_natCast, List.length_map] at *; omega)) (by first | omega | (simp only [Int.toNat_natCast, List.length_map] at *; omega)) (by first | omega | (simp only [Int.toNat_natCast, List.length_map] at *; omega)))) ?_
                  refine AL.go (OpR.plain rfl (r_assign rfl (nb rfl) (by rintro _ ⟨⟩))) ?_
                  refine AL.nil ?_
                  refine thenN ?_
                  refine AW.ret ?_
                  refine inbR ?_
                  refine thenR ?_
                  refine fin_id (.inr rfl) (ends_of rfl (.tmp rfl .nil)) ?_ .nil rfl rfl rfl rfl
                  simp only [retA]
                  refine A.le_of_eq ?_
                  first | (rw [signM_over (by omega)]; done) | (have hz := hI.2; rw [find_step (i := iI) (by rw [hw]; omega), if_pos (by rw [← pref_match hi]; assumption)] at hz; rw [signM_two hz.symm]; try simp) | (have hz := hI.2; have he : iI = 3 := (by omega); rw [he] at hz; rw [signM_one (by omega) hz.symm]; first | (rw [if_pos (one_iff.2 (by omega))]; try simp) | (rw [if_neg (fun hh => by have := one_iff.1 hh; omega)]))
                · have h9n := h9; try simp only [dtt, dff, bqi, bqf, bni, bnf, nt1, nf1, nt0, nf0, ne_eq, ilt, ile, Int.toNat_natCast, List.length_map] at h9n
                  refine AW.seq ?_
                  refine AW.region ?_
                  refine AL.go (OpR.plain rfl (r_bin rfl rfl (nb rfl) rfl (run_int_eql _ _ _))) ?_
                  refine AL.go (OpR.plain rfl (r_assign rfl (nb rfl) (by rintro _ ⟨⟩))) ?_
                  refine AL.nil ?_
                  refine thenN ?_
                  refine AW.condb rfl (fun h10 => ?_) (fun h10 => ?_)
                  · have h10n := h10; try simp only [dtt, dff, bqi, bqf, bni, bnf, nt1, nf1, nt0, nf0, ne_eq, ilt, ile, Int.toNat_natCast, List.length_map] at h10n
                    refine AW.skip ?_
                    refine thenN ?_
                    refine AW.condT rfl (h10) ?_
                    refine AW.seq ?_
                    refine AW.region ?_
                    refine AL.go (OpR.plain rfl (r_move rfl (nb rfl) (by rintro _ ⟨⟩))) ?_
                    refine AL.go (OpR.plain rfl (r_move rfl (nb rfl) (by rintro _ ⟨⟩))) ?_
                    refine AL.go (OpR.plain rfl (r_move rfl (nb rfl) (by rintro _ ⟨⟩))) ?_
                    refine AL.go (OpR.plain rfl (r_add rfl rfl (nb rfl) (by first | omega | (simp only [Int.toNat_natCast, List.length_map] at *; omega)) (by first | omega | (simp only [Int.toNat_natCast, List.length_map] at *; omega)))) ?_
                    refine AL.go (OpR.plain rfl (r_substr un_9 rfl rfl rfl (nb rfl) (by first | omega | (simp only [Int.toNat_natCast, List.length_map] at *; omega)) (by first | omega | (simp only [Int.toNat_natCast, List.length_map] at *; omega)) (by first | omega | (simp only [Int.toNat_natCast, List.length_map] at *; omega)))) ?_
                    refine AL.go (OpR.plain rfl (r_assign rfl (nb rfl) (by rintro _ ⟨⟩))) ?_
                    refine AL.nil ?_
                    refine thenN ?_
                    refine AW.ret ?_
                    refine inbR ?_
                    refine thenR ?_
                    refine fin_id (.inr rfl) (ends_of rfl (.tmp rfl .nil)) ?_ .nil rfl rfl rfl rfl
                    simp only [retA]
                    refine A.le_of_eq ?_
                    first | (rw [signM_over (by omega)]; done) | (have hz := hI.2; rw [find_step (i := iI) (by rw [hw]; omega), if_pos (by rw [← pref_match hi]; assumption)] at hz; rw [signM_two hz.symm]; try simp) | (have hz := hI.2; have he : iI = 3 := (by omega); rw [he] at hz; rw [signM_one (by omega) hz.symm]; first | (rw [if_pos (one_iff.2 (by omega))]; try simp) | (rw [if_neg (fun hh => by have := one_iff.1 hh; omega)]))
                  · have h10n := h10; try simp only [dtt, dff, bqi, bqf, bni, bnf, nt1, nf1, nt0, nf0, ne_eq, ilt, ile, Int.toNat_natCast, List.length_map] at h10n
                    refine AW.seq ?_
                    refine AW.region ?_
                    refine AL.go (OpR.plain rfl (r_bin rfl rfl (nb rfl) rfl (run_int_eql _ _ _))) ?_
                    refine AL.go (OpR.plain rfl (r_assign rfl (nb rfl) (by rintro _ ⟨⟩))) ?_
                    refine AL.nil ?_
                    refine thenN ?_
                    refine AW.condb rfl (fun h11 => ?_) (fun h11 => ?_)
                    · have h11n := h11; try simp only [dtt, dff, bqi, bqf, bni, bnf, nt1, nf1, nt0, nf0, ne_eq, ilt, ile, Int.toNat_natCast, List.length_map] at h11n
                      refine AW.skip ?_
                      refine thenN ?_
                      refine AW.condT rfl (h11) ?_
                      refine AW.seq ?_
                      refine AW.region ?_
                      refine AL.go (OpR.plain rfl (r_move rfl (nb rfl) (by rintro _ ⟨⟩))) ?_
                      refine AL.go (OpR.plain rfl (r_move rfl (nb rfl) (by rintro _ ⟨⟩))) ?_
                      refine AL.go (OpR.plain rfl (r_move rfl (nb rfl) (by rintro _ ⟨⟩))) ?_
                      refine AL.go (OpR.plain rfl (r_add rfl rfl (nb rfl) (by first | omega | (simp only [Int.toNat_natCast, List.length_map] at *; omega)) (by first | omega | (simp only [Int.toNat_natCast, List.length_map] at *; omega)))) ?_
                      refine AL.go (OpR.plain rfl (r_substr un_9 rfl rfl rfl (nb rfl) (by first | omega | (simp only [Int.toNat_natCast, List.length_map] at *; omega)) (by first | omega | (simp only [Int.toNat_natCast, List.length_map] at *; omega)) (by first | omega | (simp only [Int.toNat_natCast, List.length_map] at *; omega)))) ?_
                      refine AL.go (OpR.plain rfl (r_assign rfl (nb rfl) (by rintro _ ⟨⟩))) ?_
                      refine AL.nil ?_
                      refine thenN ?_
                      refine AW.ret ?_
                      refine inbR ?_
                      refine thenR ?_
                      refine fin_id (.inr rfl) (ends_of rfl (.tmp rfl .nil)) ?_ .nil rfl rfl rfl rfl
                      simp only [retA]
                      refine A.le_of_eq ?_
                      first | (rw [signM_over (by omega)]; done) | (have hz := hI.2; rw [find_step (i := iI) (by rw [hw]; omega), if_pos (by rw [← pref_match hi]; assumption)] at hz; rw [signM_two hz.symm]; try simp) | (have hz := hI.2; have he : iI = 3 := (by omega); rw [he] at hz; rw [signM_one (by omega) hz.symm]; first | (rw [if_pos (one_iff.2 (by omega))]; try simp) | (rw [if_neg (fun hh => by have := one_iff.1 hh; omega)]))
                    · have h11n := h11; try simp only [dtt, dff, bqi, bqf, bni, bnf, nt1, nf1, nt0, nf0, ne_eq, ilt, ile, Int.toNat_natCast, List.length_map] at h11n
                      refine AW.seq ?_
                      refine AW.region ?_
                      refine AL.go (OpR.plain rfl (r_bin rfl rfl (nb rfl) rfl (run_int_eql _ _ _))) ?_
                      refine AL.go (OpR.plain rfl (r_assign rfl (nb rfl) (by rintro _ ⟨⟩))) ?_
                      refine AL.nil ?_
                      refine thenN ?_
                      refine AW.condb rfl (fun h12 => ?_) (fun h12 => ?_)
                      · have h12n := h12; try simp only [dtt, dff, bqi, bqf, bni, bnf, nt1, nf1, nt0, nf0, ne_eq, ilt, ile, Int.toNat_natCast, List.length_map] at h12n
                        refine AW.skip ?_
                        refine thenN ?_
                        refine AW.condT rfl (h12) ?_
                        refine AW.seq ?_
                        refine AW.region ?_
                        refine AL.go (OpR.plain rfl (r_move rfl (nb rfl) (by rintro _ ⟨⟩))) ?_
                        refine AL.go (OpR.plain rfl (r_move rfl (nb rfl) (by rintro _ ⟨⟩))) ?_
                        refine AL.go (OpR.plain rfl (r_move rfl (nb rfl) (by rintro _ ⟨⟩))) ?_
                        refine AL.go (OpR.plain rfl (r_add rfl rfl (nb rfl) (by first | omega | (simp only [Int.toNat_natCast, List.length_map] at *; omega)) (by first | omega | (simp only [Int.toNat_natCast, List.length_map] at *; omega)))) ?_
                        refine AL.go (OpR.plain rfl (r_substr un_9 rfl rfl rfl (nb rfl) (by first | omega | (simp only [Int.toNat_natCast, List.length_map] at *; omega)) (by first | omega | (simp only [Int.toNat_natCast, List.length_map] at *; omega)) (by first | omega | (simp only [Int.toNat_natCast, List.length_map] at *; omega)))) ?_
                        refine AL.go (OpR.plain rfl (r_assign rfl (nb rfl) (by rintro _ ⟨⟩))) ?_
                        refine AL.nil ?_
                        refine thenN ?_
                        refine AW.ret ?_
                        refine inbR ?_
                        refine thenR ?_
                        refine fin_id (.inr rfl) (ends_of rfl (.tmp rfl .nil)) ?_ .nil rfl rfl rfl rfl
                        simp only [retA]
                        refine A.le_of_eq ?_
                        first | (rw [signM_over (by omega)]; done) | (have hz := hI.2; rw [find_step (i := iI) (by rw [hw]; omega), if_pos (by rw [← pref_match hi]; assumption)] at hz; rw [signM_two hz.symm]; try simp) | (have hz := hI.2; have he : iI = 3 := (by omega); rw [he] at hz; rw [signM_one (by omega) hz.symm]; first | (rw [if_pos (one_iff.2 (by omega))]; try simp) | (rw [if_neg (fun hh => by have := one_iff.1 hh; omega)]))
                      · have h12n := h12; try simp only [dtt, dff, bqi, bqf, bni, bnf, nt1, nf1, nt0, nf0, ne_eq, ilt, ile, Int.toNat_natCast, List.length_map] at h12n
                        refine AW.seq ?_
                        refine AW.region ?_
                        refine AL.go (OpR.plain rfl (r_bin rfl rfl (nb rfl) rfl (run_int_eql _ _ _))) ?_
                        refine AL.go (OpR.plain rfl (r_assign rfl (nb rfl) (by rintro _ ⟨⟩))) ?_
                        refine AL.nil ?_
                        refine thenN ?_
                        refine AW.condb rfl (fun h13 => ?_) (fun h13 => ?_)
                        · have h13n := h13; try simp only [dtt, dff, bqi, bqf, bni, bnf, nt1, nf1, nt0, nf0, ne_eq, ilt, ile, Int.toNat_natCast, List.length_map] at h13n
                          refine AW.skip ?_
                          refine thenN ?_
                          refine AW.condT rfl (h13) ?_
                          refine AW.seq ?_
                          refine AW.region ?_
                          refine AL.go (OpR.plain rfl (r_move rfl (nb rfl) (by rintro _ ⟨⟩))) ?_
                          refine AL.go (OpR.plain rfl (r_move rfl (nb rfl) (by rintro _ ⟨⟩))) ?_
                          refine AL.go (OpR.plain rfl (r_move rfl (nb rfl) (by rintro _ ⟨⟩))) ?_
                          refine AL.go (OpR.plain rfl (r_add rfl rfl (nb rfl) (by first | omega | (simp only [Int.toNat_natCast, List.length_map] at *; omega)) (by first | omega | (simp only [Int.toNat_natCast, List.length_map] at *; omega)))) ?_
                          refine AL.go (OpR.plain rfl (r_substr un_9 rfl rfl rfl (nb rfl) (by first | omega | (simp only [Int.toNat_natCast, List.length_map] at *; omega)) (by first | omega | (simp only [Int.toNat_natCast, List.length_map] at *; omega)) (by first | omega | (simp only [Int.toNat_natCast, List.length_map] at *; omega)))) ?_
                          refine AL.go (OpR.plain rfl (r_assign rfl (nb rfl) (by rintro _ ⟨⟩))) ?_
                          refine AL.nil ?_
                          refine thenN ?_
                          refine AW.ret ?_
                          refine inbR ?_
                          refine thenR ?_
                          refine fin_id (.inr rfl) (ends_of rfl (.tmp rfl .nil)) ?_ .nil rfl rfl rfl rfl
                          simp only [retA]
                          refine A.le_of_eq ?_
                          first | (rw [signM_over (by omega)]; done) | (have hz := hI.2; rw [find_step (i := iI) (by rw [hw]; omega), if_pos (by rw [← pref_match hi]; assumption)] at hz; rw [signM_two hz.symm]; try simp) | (have hz := hI.2; have he : iI = 3 := (by omega); rw [he] at hz; rw [signM_one (by omega) hz.symm]; first | (rw [if_pos (one_iff.2 (by omega))]; try simp) | (rw [if_neg (fun hh => by have := one_iff.1 hh; omega)]))
                        · have h13n := h13; try simp only [dtt, dff, bqi, bqf, bni, bnf, nt1, nf1, nt0, nf0, ne_eq, ilt, ile, Int.toNat_natCast, List.length_map] at h13n
                          refine AW.region ?_
                          refine AL.go (OpR.plain rfl (r_bin rfl rfl (nb rfl) rfl (run_int_eql _ _ _))) ?_
                          refine AL.go (OpR.plain rfl (r_assign rfl (nb rfl) (by rintro _ ⟨⟩))) ?_
                          refine AL.nil ?_
                          refine thenN ?_
                          refine AW.condb rfl (fun h14 => ?_) (fun h14 => ?_)
                          · have h14n := h14; try simp only [dtt, dff, bqi, bqf, bni, bnf, nt1, nf1, nt0, nf0, ne_eq, ilt, ile, Int.toNat_natCast, List.length_map] at h14n
                            refine AW.seq ?_
                            refine AW.region ?_
                            refine AL.go (OpR.plain rfl (r_move rfl (nb rfl) (by rintro _ ⟨⟩))) ?_
                            refine AL.go (OpR.plain rfl (r_move rfl (nb rfl) (by rintro _ ⟨⟩))) ?_
                            refine AL.go (OpR.plain rfl (r_move rfl (nb rfl) (by rintro _ ⟨⟩))) ?_
                            refine AL.go (OpR.plain rfl (r_add rfl rfl (nb rfl) (by first | omega | (simp only [Int.toNat_natCast, List.length_map] at *; omega)) (by first | omega | (simp only [Int.toNat_natCast, List.length_map] at *; omega)))) ?_
                            refine AL.go (OpR.plain rfl (r_substr un_9 rfl rfl rfl (nb rfl) (by first | omega | (simp only [Int.toNat_natCast, List.length_map] at *; omega)) (by first | omega | (simp only [Int.toNat_natCast, List.length_map] at *; omega)) (by first | omega | (simp only [Int.toNat_natCast, List.length_map] at *; omega)))) ?_
                            refine AL.go (OpR.plain rfl (r_assign rfl (nb rfl) (by rintro _ ⟨⟩))) ?_
                            refine AL.nil ?_
                            refine thenN ?_
                            refine AW.ret ?_
                            refine inbR ?_
                            refine thenR ?_
                            refine fin_id (.inr rfl) (ends_of rfl (.tmp rfl .nil)) ?_ .nil rfl rfl rfl rfl
                            simp only [retA]
                            refine A.le_of_eq ?_
                            first | (rw [signM_over (by omega)]; done) | (have hz := hI.2; rw [find_step (i := iI) (by rw [hw]; omega), if_pos (by rw [← pref_match hi]; assumption)] at hz; rw [signM_two hz.symm]; try simp) | (have hz := hI.2; have he : iI = 3 := (by omega); rw [he] at hz; rw [signM_one (by omega) hz.symm]; first | (rw [if_pos (one_iff.2 (by omega))]; try simp) | (rw [if_neg (fun hh => by have := one_iff.1 hh; omega)]))
                          · have h14n := h14; try simp only [dtt, dff, bqi, bqf, bni, bnf, nt1, nf1, nt0, nf0, ne_eq, ilt, ile, Int.toNat_natCast, List.length_map] at h14n
                            refine AW.skip ?_
                            refine inbN ?_
                            refine thenN ?_
                            refine AW.seq ?_
                            refine AW.region ?_
                            refine AL.go (OpR.plain rfl (r_assign rfl (nb rfl) (by rintro _ ⟨⟩; rfl))) ?_
                            refine AL.nil ?_
                            refine thenN ?_
                            refine AW.ret ?_
                            refine fin_id (.inr rfl) (ends_of rfl (.tmp rfl .nil)) ?_ .nil rfl rfl rfl rfl
                            simp only [retA]
                            refine A.le_of_eq ?_
                            first | (rw [signM_over (by omega)]; done) | (have hz := hI.2; rw [find_step (i := iI) (by rw [hw]; omega), if_pos (by rw [← pref_match hi]; assumption)] at hz; rw [signM_two hz.symm]; try simp) | (have hz := hI.2; have he : iI = 3 := (by omega); rw [he] at hz; rw [signM_one (by omega) hz.symm]; first | (rw [if_pos (one_iff.2 (by omega))]; try simp) | (rw [if_neg (fun hh => by have := one_iff.1 hh; omega)]))

end Go.Par
