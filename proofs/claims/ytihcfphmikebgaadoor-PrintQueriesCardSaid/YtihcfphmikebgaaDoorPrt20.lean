import Derived.Test.YtihcfphmikebgaaDoorPrt19
namespace Go.Par
open Go Go.Am Go.Proofs Go.RowKit
set_option linter.unusedVariables false
set_option linter.unusedSimpArgs false

/-! Quoted texts and numbers -/
theorem quoteL_length : ∀ l : List UInt8, (quoteL l).length ≤ 2 * l.length
  | [] => ler _
  | c :: l => by
    have h := quoteL_length l
    have h2 : (if c = 39 then [39, 39] else [c] : List UInt8).length ≤ 2 := by split <;> simp
    simp only [quoteL, List.flatMap_cons, List.length_append, lnc] at h h2 ⊢
    omega
structure QuI (s : ByteArray) (i : Nat) (acc : ByteArray) : Prop where
  h : i ≤ s.size
  e : acc = ⟨(39 :: quoteL (s.data.toList.take i)).toArray⟩
  n : acc.size ≤ 2 * i + 1
theorem QuI.start (s : ByteArray) : QuI s 0 ⟨#[39]⟩ := ⟨Nat.zero_le _, rfl, by show 1 ≤ _; omega⟩
theorem take_next {s : ByteArray} {i : Nat} (h : i < s.size) : s.data.toList.take (i + 1) = s.data.toList.take i ++ [bAt s i] := by
  have hd : i < s.data.toList.length := by simpa using h
  rw [List.take_add_one, List.getElem?_eq_getElem hd]
  have : s.data.toList[i] = bAt s i := by
    rw [← bAt_eq h]; rfl
  rw [this]; rfl
theorem quoteL_snoc (l : List UInt8) (c : UInt8) : quoteL (l ++ [c]) = quoteL l ++ (if c = 39 then [39, 39] else [c]) := by
  simp [quoteL]
theorem QuI.next {s : ByteArray} {i : Nat} {acc : ByteArray} (h : QuI s i acc) (hlt : (i : Int) < s.size) (hc : ¬ ((bAt s i).toNat : Int) = 39) : QuI s (i + 1) (acc.push (bAt s i)) := by
  have := h.n
  refine ⟨by omega, ?_, by rw [size_push]; omega⟩
  rw [take_next (by omega), quoteL_snoc, if_neg (fun e => hc (u8_39.2 e)), h.e]
  simp [ByteArray.push]
theorem QuI.next2 {s : ByteArray} {i : Nat} {acc : ByteArray} (h : QuI s i acc) (hlt : (i : Int) < s.size) (hc : ((bAt s i).toNat : Int) = 39) : QuI s (i + 1) ((acc.push 39).push (bAt s i)) := by
  have := h.n
  refine ⟨by omega, ?_, by rw [size_push, size_push]; omega⟩
  have hc' := u8_39.1 hc
  rw [take_next (by omega), quoteL_snoc, if_pos hc', h.e, hc']
  simp [ByteArray.push]
theorem QuI.fin {s : ByteArray} {i : Nat} {acc : ByteArray} (h : QuI s i acc) (hge : (s.size : Int) ≤ i) : acc.push 39 = quoteM s := by
  have h1 := h.h
  have : i = s.data.toList.length := by simp; show i = s.size; omega
  rw [h.e, this, List.take_length]
  simp [quoteM, ByteArray.push]
theorem src_q {m : Nat} {acc : ByteArray} : SrcOf (.c (.own m (byteRows acc ++ [[.v (.int .u8 39)]]))) (byteRows (acc.push 39)) := by
  have : byteRows acc ++ [[.v (.int .u8 39)]] = byteRows (acc.push 39) := by simp [byteRows, ByteArray.push]
  rw [← this]; exact .own
theorem quoteM_size (s : ByteArray) : (quoteM s).size ≤ 2 * s.size + 2 := by
  have := quoteL_length s.data.toList
  show (39 :: (quoteL s.data.toList ++ [39])).toArray.size ≤ _
  simp at this ⊢
  have e : s.data.size = s.size := rfl
  omega
theorem wrap_u64 {n : Int} (h0 : 0 ≤ n) (h1 : n ≤ 18446744073709551615) : IntKind.u64.wrap n = n := by
  simp only [IntKind.wrap, IntKind.signed, IntKind.bits]
  simp
  omega
theorem wrap_u64n {n : Int} (h0 : -9223372036854775808 ≤ n) (h1 : n < 0) : IntKind.u64.wrap (0 - IntKind.u64.wrap n) = n.natAbs := by
  simp only [IntKind.wrap, IntKind.signed, IntKind.bits]
  simp
  omega
abbrev decS : ByteArray := ⟨#[48, 49, 50, 51, 52, 53, 54, 55, 56, 57]⟩
theorem decS_at {k : Nat} (h : k < 10) : decS.extract k (k + 1) = ⟨#[UInt8.ofNat (48 + k)]⟩ := by
  match k, h with
  | 0, _ | 1, _ | 2, _ | 3, _ | 4, _ | 5, _ | 6, _ | 7, _ | 8, _ | 9, _ => rfl
theorem tm10 (v : Nat) : ((v : Int).tmod 10) = ((v % 10 : Nat) : Int) := rfl
theorem td10 (v : Nat) : ((v : Int).tdiv 10) = ((v / 10 : Nat) : Int) := rfl
/-- v is what is left of the number, out its last digits. -/
structure DecI (n : Int) (v : Nat) (out : ByteArray) : Prop where
  e : Lib.decDigits n.natAbs = Lib.decDigits v ++ out.data.toList
  hv : v ≤ 9223372036854775808
  n : ∃ j : Nat, out.size = j ∧ v * 10 ^ j ≤ 9223372036854775808 ∧ (j ≠ 0 → 0 < v)
theorem DecI.size {n : Int} {v : Nat} {out : ByteArray} (h : DecI n v out) : out.size ≤ 20 := by
  obtain ⟨j, h1, h2, h3⟩ := h.n
  by_cases hj : j ≤ 20
  · omega
  · exfalso
    have hv := h3 (by omega)
    have : 10 ^ 20 ≤ 10 ^ j := Nat.pow_le_pow_right (by decide) (by omega)
    have h4 : 1 * 10 ^ 20 ≤ v * 10 ^ j := Nat.mul_le_mul hv this
    have h5 : (10 : Nat) ^ 20 = 100000000000000000000 := by decide
    omega
theorem DecI.start {n : Int} (h0 : -9223372036854775808 ≤ n) (h1 : n ≤ 9223372036854775807) : DecI n n.natAbs ⟨#[]⟩ := ⟨by simp, by omega, 0, rfl, by simp; omega, by simp⟩
theorem DecI.next {n : Int} {v : Nat} {out : ByteArray} (h : DecI n v out) (hv : 10 ≤ v) : DecI n (v / 10) (⟨#[UInt8.ofNat (48 + v % 10)]⟩ ++ out) := by
  obtain ⟨j, h1, h2, h3⟩ := h.n
  have := h.hv
  refine ⟨?_, by omega, j + 1, by rw [ByteArray.size_append, h1]; show 1 + j = _; omega, ?_, by omega⟩
  · rw [h.e, Lib.decDigits, dif_neg (by omega)]
    simp [ByteArray.data_append]
  · have h5 : v / 10 * 10 ^ (j + 1) ≤ v * 10 ^ j := by
      rw [Nat.pow_succ, Nat.mul_comm (10 ^ j) 10, ← Nat.mul_assoc]
      exact Nat.mul_le_mul_right _ (Nat.div_mul_le_self v 10)
    omega
theorem DecI.fin {n : Int} {v : Nat} {out : ByteArray} (h : DecI n v out) (hv : v < 10) (hn : ¬ n < 0) : (⟨#[UInt8.ofNat (48 + v)]⟩ ++ out : ByteArray) = itoaM n := by
  have e := h.e
  rw [Lib.decDigits.eq_def v, dif_pos hv] at e
  unfold itoaM Lib.itoa
  rw [if_neg hn, show n.toNat = n.natAbs by omega, e]
  apply ByteArray.ext
  simp [ByteArray.data_append]
theorem DecI.finN {n : Int} {v : Nat} {out : ByteArray} (h : DecI n v out) (hv : v < 10) (hn : n < 0) : (⟨#[45]⟩ ++ (⟨#[UInt8.ofNat (48 + v)]⟩ ++ out) : ByteArray) = itoaM n := by
  have e := h.e
  rw [Lib.decDigits.eq_def v, dif_pos hv] at e
  unfold itoaM Lib.itoa
  rw [if_pos hn, e]
  apply ByteArray.ext
  simp [ByteArray.data_append]

theorem un_79 : Tryd.prog.underlying 79 = some (TypeDesc.int IntKind.u64) := by kernel_rfl

theorem quote_s (s : ByteArray) (hs : s.size ≤ 1000000000) : Am.Spec Tryd.prog 35 [A.val (.string s)] [] (A.val (.string (quoteM s))) [] := by
  refine spec_ofN (n := 29) Tryd.func35 rfl rfl (nb rfl) ?_
  show AW _ _ (⟨[(0, A.val (.string s))], [], []⟩ : St) _
  refine AW.seq ?_
  refine AW.region ?_
  refine AL.go (OpR.plain rfl (r_assign rfl (nb rfl) (by rintro _ ⟨⟩; rfl))) ?_
  refine AL.nil ?_
  refine thenN ?_
  refine AW.seq ?_
  refine AW.region ?_
  refine AL.go (OpR.plain rfl (r_buildOwnN 101 un_78 ti_5 rfl rfl rfl rfl rfl (by decide) (by decide) rfl (by simp) rfl (nb rfl))) ?_
  refine AL.go (OpR.plain rfl (r_assign rfl (nb rfl) (by rintro _ ⟨⟩))) ?_
  refine AL.nil ?_
  refine thenN ?_
  refine AW.seq ?_
  refine AW.seq ?_
  refine AW.region ?_
  refine AL.go (OpR.plain rfl (r_move rfl (nb rfl) (by rintro _ ⟨⟩))) ?_
  refine AL.go (OpR.plain rfl (r_lens un_9 rfl (nb rfl))) ?_
  refine AL.go (OpR.plain rfl (r_move rfl (nb rfl) (by rintro _ ⟨⟩; rfl))) ?_
  refine AL.nil ?_
  refine thenN ?_
  refine AW.block ?_
  refine AW.loop (ι := { x : Nat × ByteArray // QuI s x.1 x.2 }) (fun x => ⟨[(0, A.val (.string s)), (3, A.c (.own 101 (byteRows x.1.2))), (7, A.i64 (s.size : Int)), (8, A.i64 (x.1.1 : Int))], [(101, .perm 1 5)], []⟩) (fun x => s.size - x.1.1) ⟨(0, ⟨#[39]⟩), QuI.start s⟩ (weakens_id (.cons rfl (A.le_of_eq (by first | rfl | (simp [A.ren, C.ren, renOf, lk]; done) | (simp [A.ren, C.ren, renOf, lk]; omega) | omega)) (.cons rfl (A.le_of_eq (by first | rfl | (simp [A.ren, C.ren, renOf, lk]; done) | (simp [A.ren, C.ren, renOf, lk]; omega) | omega)) (.cons rfl (A.le_of_eq (by first | rfl | (simp [A.ren, C.ren, renOf, lk]; done) | (simp [A.ren, C.ren, renOf, lk]; omega) | omega)) (.cons rfl (A.le_of_eq (by first | rfl | (simp [A.ren, C.ren, renOf, lk]; done) | (simp [A.ren, C.ren, renOf, lk]; omega) | omega)) .nil)))) (.cons rfl (Ob.le_refl _) .nil) rfl rfl rfl rfl) ?_
  rintro ⟨⟨i, aA⟩, hI⟩
  simp only at hI
  have hIa := hI.h; have hIb := hI.n
  show AW _ _ (⟨[(0, A.val (.string s)), (3, A.c (.own 101 (byteRows aA))), (7, A.i64 (s.size : Int)), (8, A.i64 (i : Int))], [(101, .perm 1 5)], []⟩ : St) _
  refine AW.seq ?_
  refine AW.region ?_
  refine AL.go (OpR.plain rfl (r_bin rfl rfl (nb rfl) rfl (run_int_lss _ _ _))) ?_
  refine AL.nil ?_
  refine thenN ?_
  refine AW.seq ?_
  refine AW.condb rfl (fun h1 => ?_) (fun h1 => ?_)
  · have h1n := h1; try simp only [dtt, dff, bqi, bqf, bni, bnf, nt1, nf1, nt0, nf0, ne_eq, ilt, ile, Int.toNat_natCast] at h1n
    refine AW.skip ?_
    refine thenN ?_
    refine AW.seq ?_
    refine AW.block ?_
    refine AW.seq ?_
    refine AW.region ?_
    refine AL.go (OpR.plain rfl (r_move rfl (nb rfl) (by rintro _ ⟨⟩))) ?_
    refine AL.go (OpR.plain rfl (r_assign rfl (nb rfl) (by rintro _ ⟨⟩))) ?_
    refine AL.nil ?_
    refine thenN ?_
    refine AW.seq ?_
    refine AW.seq ?_
    refine AW.region ?_
    refine AL.go (OpR.plain rfl (r_move rfl (nb rfl) (by rintro _ ⟨⟩))) ?_
    refine AL.go (OpR.plain rfl (r_move rfl (nb rfl) (by rintro _ ⟨⟩))) ?_
    refine AL.go (OpR.plain rfl (r_byteD un_9 rfl rfl (nb rfl) (by first | omega | (simp only [Int.toNat_natCast] at *; omega)) (by first | omega | (simp only [Int.toNat_natCast] at *; omega)))) ?_
    refine AL.go (OpR.plain rfl (r_bin rfl rfl (nb rfl) rfl (run_int_eql _ _ _))) ?_
    refine AL.nil ?_
    refine thenN ?_
    refine AW.condb rfl (fun h2 => ?_) (fun h2 => ?_)
    · have h2n := h2; try simp only [dtt, dff, bqi, bqf, bni, bnf, nt1, nf1, nt0, nf0, ne_eq, ilt, ile, Int.toNat_natCast] at h2n
      refine AW.region ?_
      refine AL.go (OpR.plain rfl (r_move rfl (nb rfl) (by rintro _ ⟨⟩))) ?_
      refine AL.go (OpR.plain rfl (r_buildSlice un_78 ti_5 rfl rfl rfl rfl rfl (by decide) (by decide) rfl (nb rfl))) ?_
      first | refine AL.go (OpR.plain rfl (r_append 103 un_78 ti_5 rfl rfl rfl rfl (by first | exact .sl | exact .own | exact .nil) rfl (by first | (simp; done) | (intro r hr; simp at hr; obtain ⟨_, _, rfl⟩ := hr; rfl; done) | (intro r hr; simp at hr; rcases hr with ⟨_, _, rfl⟩ | rfl <;> rfl) | (intro r hr; simp at hr; simp [hr]; done)) (by first | (simp; done) | (intro r hr; simp at hr; obtain ⟨_, _, rfl⟩ := hr; rfl; done) | (intro r hr; simp at hr; rcases hr with ⟨_, _, rfl⟩ | rfl <;> rfl) | (intro r hr; simp at hr; simp [hr]; done)) rfl (by simp [maxLen, byteRows]; have : aA.data.size = aA.size := rfl; omega) (by simp [maxLen, byteRows]; have : aA.data.size = aA.size := rfl; omega) (nb rfl))) ?_ | refine AL.go (OpR.plain rfl (r_appendNil 102 103 un_78 ti_5 rfl rfl rfl (by first | exact .sl | exact .own | exact .nil) rfl (by first | (simp; done) | (intro r hr; simp at hr; obtain ⟨_, _, rfl⟩ := hr; rfl; done) | (intro r hr; simp at hr; rcases hr with ⟨_, _, rfl⟩ | rfl <;> rfl) | (intro r hr; simp at hr; simp [hr]; done)) rfl rfl (by decide) (by simp [maxLen, byteRows]; have : aA.data.size = aA.size := rfl; omega) (by simp [maxLen, byteRows]; have : aA.data.size = aA.size := rfl; omega) (nb rfl))) ?_
      refine AL.go (OpR.plain rfl (r_assign rfl (nb rfl) (by rintro _ ⟨⟩))) ?_
      refine AL.nil ?_
      refine thenN ?_
      refine AW.region ?_
      refine AL.go (OpR.plain rfl (r_move rfl (nb rfl) (by rintro _ ⟨⟩))) ?_
      refine AL.go (OpR.plain rfl (r_move rfl (nb rfl) (by rintro _ ⟨⟩))) ?_
      refine AL.go (OpR.plain rfl (r_move rfl (nb rfl) (by rintro _ ⟨⟩))) ?_
      refine AL.go (OpR.plain rfl (r_byteD un_9 rfl rfl (nb rfl) (by first | omega | (simp only [Int.toNat_natCast] at *; omega)) (by first | omega | (simp only [Int.toNat_natCast] at *; omega)))) ?_
      refine AL.go (OpR.plain rfl (r_buildSlice un_78 ti_5 rfl rfl rfl rfl rfl (by decide) (by decide) rfl (nb rfl))) ?_
      first | refine AL.go (OpR.plain rfl (r_append 105 un_78 ti_5 rfl rfl rfl rfl (by first | exact .sl | exact .own | exact .nil) rfl (by first | (simp; done) | (intro r hr; simp at hr; obtain ⟨_, _, rfl⟩ := hr; rfl; done) | (intro r hr; simp at hr; rcases hr with ⟨_, _, rfl⟩ | rfl <;> rfl) | (intro r hr; simp at hr; simp [hr]; done)) (by first | (simp; done) | (intro r hr; simp at hr; obtain ⟨_, _, rfl⟩ := hr; rfl; done) | (intro r hr; simp at hr; rcases hr with ⟨_, _, rfl⟩ | rfl <;> rfl) | (intro r hr; simp at hr; simp [hr]; done)) rfl (by simp [maxLen, byteRows]; have : aA.data.size = aA.size := rfl; omega) (by simp [maxLen, byteRows]; have : aA.data.size = aA.size := rfl; omega) (nb rfl))) ?_ | refine AL.go (OpR.plain rfl (r_appendNil 104 105 un_78 ti_5 rfl rfl rfl (by first | exact .sl | exact .own | exact .nil) rfl (by first | (simp; done) | (intro r hr; simp at hr; obtain ⟨_, _, rfl⟩ := hr; rfl; done) | (intro r hr; simp at hr; rcases hr with ⟨_, _, rfl⟩ | rfl <;> rfl) | (intro r hr; simp at hr; simp [hr]; done)) rfl rfl (by decide) (by simp [maxLen, byteRows]; have : aA.data.size = aA.size := rfl; omega) (by simp [maxLen, byteRows]; have : aA.data.size = aA.size := rfl; omega) (nb rfl))) ?_
      refine AL.go (OpR.plain rfl (r_assign rfl (nb rfl) (by rintro _ ⟨⟩))) ?_
      refine AL.nil ?_
      refine inbN ?_
      refine thenN ?_
      refine AW.region ?_
      refine AL.go (OpR.plain rfl (r_add rfl rfl (nb rfl) (by first | omega | (simp only [Int.toNat_natCast] at *; omega)) (by first | omega | (simp only [Int.toNat_natCast] at *; omega)))) ?_
      refine AL.go (OpR.plain rfl (r_move rfl (nb rfl) (by rintro _ ⟨⟩))) ?_
      refine AL.nil ?_
      refine thenN ?_
      refine ⟨⟨(i + 1, (aA.push 39).push (bAt s i)), hI.next2 (by omega) (by assumption)⟩, by simp only; omega, weakens_ren [(101, 105)] (.cons rfl (A.le_of_eq (by first | rfl | (simp [A.ren, C.ren, renOf, lk]; done) | (simp [A.ren, C.ren, renOf, lk]; omega) | omega)) (.cons rfl (A.le_of_eq (by simp [byteRows, ByteArray.push, A.ren, C.ren, renOf, lk])) (.cons rfl (A.le_of_eq (by first | rfl | (simp [A.ren, C.ren, renOf, lk]; done) | (simp [A.ren, C.ren, renOf, lk]; omega) | omega)) (.cons rfl (A.le_of_eq (by first | rfl | (simp [A.ren, C.ren, renOf, lk]; done) | (simp [A.ren, C.ren, renOf, lk]; omega) | omega)) .nil)))) (.cons rfl (Ob.le_refl _) .nil) rfl rfl rfl rfl rfl rfl⟩
    · have h2n := h2; try simp only [dtt, dff, bqi, bqf, bni, bnf, nt1, nf1, nt0, nf0, ne_eq, ilt, ile, Int.toNat_natCast] at h2n
      refine AW.skip ?_
      refine thenN ?_
      refine AW.region ?_
      refine AL.go (OpR.plain rfl (r_move rfl (nb rfl) (by rintro _ ⟨⟩))) ?_
      refine AL.go (OpR.plain rfl (r_move rfl (nb rfl) (by rintro _ ⟨⟩))) ?_
      refine AL.go (OpR.plain rfl (r_move rfl (nb rfl) (by rintro _ ⟨⟩))) ?_
      refine AL.go (OpR.plain rfl (r_byteD un_9 rfl rfl (nb rfl) (by first | omega | (simp only [Int.toNat_natCast] at *; omega)) (by first | omega | (simp only [Int.toNat_natCast] at *; omega)))) ?_
      refine AL.go (OpR.plain rfl (r_buildSlice un_78 ti_5 rfl rfl rfl rfl rfl (by decide) (by decide) rfl (nb rfl))) ?_
      first | refine AL.go (OpR.plain rfl (r_append 103 un_78 ti_5 rfl rfl rfl rfl (by first | exact .sl | exact .own | exact .nil) rfl (by first | (simp; done) | (intro r hr; simp at hr; obtain ⟨_, _, rfl⟩ := hr; rfl; done) | (intro r hr; simp at hr; rcases hr with ⟨_, _, rfl⟩ | rfl <;> rfl) | (intro r hr; simp at hr; simp [hr]; done)) (by first | (simp; done) | (intro r hr; simp at hr; obtain ⟨_, _, rfl⟩ := hr; rfl; done) | (intro r hr; simp at hr; rcases hr with ⟨_, _, rfl⟩ | rfl <;> rfl) | (intro r hr; simp at hr; simp [hr]; done)) rfl (by simp [maxLen, byteRows]; have : aA.data.size = aA.size := rfl; omega) (by simp [maxLen, byteRows]; have : aA.data.size = aA.size := rfl; omega) (nb rfl))) ?_ | refine AL.go (OpR.plain rfl (r_appendNil 102 103 un_78 ti_5 rfl rfl rfl (by first | exact .sl | exact .own | exact .nil) rfl (by first | (simp; done) | (intro r hr; simp at hr; obtain ⟨_, _, rfl⟩ := hr; rfl; done) | (intro r hr; simp at hr; rcases hr with ⟨_, _, rfl⟩ | rfl <;> rfl) | (intro r hr; simp at hr; simp [hr]; done)) rfl rfl (by decide) (by simp [maxLen, byteRows]; have : aA.data.size = aA.size := rfl; omega) (by simp [maxLen, byteRows]; have : aA.data.size = aA.size := rfl; omega) (nb rfl))) ?_
      refine AL.go (OpR.plain rfl (r_assign rfl (nb rfl) (by rintro _ ⟨⟩))) ?_
      refine AL.nil ?_
      refine inbN ?_
      refine thenN ?_
      refine AW.region ?_
      refine AL.go (OpR.plain rfl (r_add rfl rfl (nb rfl) (by first | omega | (simp only [Int.toNat_natCast] at *; omega)) (by first | omega | (simp only [Int.toNat_natCast] at *; omega)))) ?_
      refine AL.go (OpR.plain rfl (r_move rfl (nb rfl) (by rintro _ ⟨⟩))) ?_
      refine AL.nil ?_
      refine thenN ?_
      refine ⟨⟨(i + 1, aA.push (bAt s i)), hI.next (by omega) (by assumption)⟩, by simp only; omega, weakens_ren [(101, 103)] (.cons rfl (A.le_of_eq (by first | rfl | (simp [A.ren, C.ren, renOf, lk]; done) | (simp [A.ren, C.ren, renOf, lk]; omega) | omega)) (.cons rfl (A.le_of_eq (by simp [byteRows, ByteArray.push, A.ren, C.ren, renOf, lk])) (.cons rfl (A.le_of_eq (by first | rfl | (simp [A.ren, C.ren, renOf, lk]; done) | (simp [A.ren, C.ren, renOf, lk]; omega) | omega)) (.cons rfl (A.le_of_eq (by first | rfl | (simp [A.ren, C.ren, renOf, lk]; done) | (simp [A.ren, C.ren, renOf, lk]; omega) | omega)) .nil)))) (.cons rfl (Ob.le_refl _) .nil) rfl rfl rfl rfl rfl rfl⟩
  · have h1n := h1; try simp only [dtt, dff, bqi, bqf, bni, bnf, nt1, nf1, nt0, nf0, ne_eq, ilt, ile, Int.toNat_natCast] at h1n
    refine AW.exit ?_
    refine thenX ?_
    refine thenX ?_
    refine inbE ?_
    refine thenN ?_
    refine AW.seq ?_
    refine AW.region ?_
    refine AL.go (OpR.plain rfl (r_move rfl (nb rfl) (by rintro _ ⟨⟩))) ?_
    refine AL.go (OpR.plain rfl (r_buildSlice un_78 ti_5 rfl rfl rfl rfl rfl (by decide) (by decide) rfl (nb rfl))) ?_
    first | refine AL.go (OpR.plain rfl (r_append 103 un_78 ti_5 rfl rfl rfl rfl (by first | exact .sl | exact .own | exact .nil) rfl (by first | (simp; done) | (intro r hr; simp at hr; obtain ⟨_, _, rfl⟩ := hr; rfl; done) | (intro r hr; simp at hr; rcases hr with ⟨_, _, rfl⟩ | rfl <;> rfl) | (intro r hr; simp at hr; simp [hr]; done)) (by first | (simp; done) | (intro r hr; simp at hr; obtain ⟨_, _, rfl⟩ := hr; rfl; done) | (intro r hr; simp at hr; rcases hr with ⟨_, _, rfl⟩ | rfl <;> rfl) | (intro r hr; simp at hr; simp [hr]; done)) rfl (by simp [maxLen, byteRows]; have : aA.data.size = aA.size := rfl; omega) (by simp [maxLen, byteRows]; have : aA.data.size = aA.size := rfl; omega) (nb rfl))) ?_ | refine AL.go (OpR.plain rfl (r_appendNil 102 103 un_78 ti_5 rfl rfl rfl (by first | exact .sl | exact .own | exact .nil) rfl (by first | (simp; done) | (intro r hr; simp at hr; obtain ⟨_, _, rfl⟩ := hr; rfl; done) | (intro r hr; simp at hr; rcases hr with ⟨_, _, rfl⟩ | rfl <;> rfl) | (intro r hr; simp at hr; simp [hr]; done)) rfl rfl (by decide) (by simp [maxLen, byteRows]; have : aA.data.size = aA.size := rfl; omega) (by simp [maxLen, byteRows]; have : aA.data.size = aA.size := rfl; omega) (nb rfl))) ?_
    refine AL.go (OpR.plain rfl (r_bts un_78 un_5 un_9 rfl src_q rfl (nb rfl))) ?_
    refine AL.go (OpR.plain rfl (r_assign rfl (nb rfl) (by rintro _ ⟨⟩))) ?_
    refine AL.nil ?_
    refine thenN ?_
    refine AW.ret ?_
    refine fin_id (.inr rfl) (ends_of rfl (.tmp rfl .nil)) ?_ .nil rfl rfl rfl rfl
    simp only [retA]
    exact A.le_of_eq (by rw [hI.fin (by omega)])

end Go.Par
