import Derived.Test.YtihcfphmikebgaaDoorPrt7
namespace Go.Par
open Go Go.Am Go.Proofs Go.RowKit
set_option linter.unusedVariables false
set_option linter.unusedSimpArgs false

def nmc (c : Int) : Bool := isLetter c || isDigit c
def nameM (s : ByteArray) (i : Nat) : Tok × Nat × Int :=
  if runOf nmc s i - i > 32 then (Tok.zero, i, 1) else (⟨if isWord (s.extract i (runOf nmc s i)) then 2 else 1, s.extract i (runOf nmc s i), 0, i⟩, runOf nmc s i, 0)
theorem get_bAt {u : ByteArray} {p : Nat} (h : p < u.size) : u.get! p = bAt u p := by
  rw [← bAt_eq h]
  simp [ByteArray.get!, getElem!_pos, h]
  rfl
theorem dec_lo {u : ByteArray} {p : Nat} (h : p < u.size) (hb : (bAt u p).toNat < 128) : Utf8.decode u p = ((bAt u p).toNat, 1) := by
  simp only [Utf8.decode, adz, get_bAt h]
  rw [if_pos hb]
theorem dec_hi {u : ByteArray} {p : Nat} (h : p < u.size) (hb : 128 ≤ (bAt u p).toNat) : 128 ≤ (Utf8.decode u p).1 := by
  simp only [Utf8.decode, adz, get_bAt h]
  rw [if_neg (by omega)]
  repeat' split
  all_goals first | (simp only [Utf8.runeError]; omega) | (simp_all; omega) | simp_all [Utf8.runeError]
theorem dec_case {u : ByteArray} {p : Nat} (h : p < u.size) : (((Utf8.decode u p).1 : Int) < 128 → Utf8.decode u p = ((bAt u p).toNat, 1)) ∧ (128 ≤ ((Utf8.decode u p).1 : Int) → 128 ≤ ((bAt u p).toNat : Int)) := by
  rcases Nat.lt_or_ge (bAt u p).toNat 128 with hb | hb
  · have := dec_lo h hb
    refine ⟨fun _ => this, fun hc => ?_⟩
    rw [this] at hc; simp at hc; omega
  · have := dec_hi h hb
    exact ⟨fun hc => by omega, fun _ => by omega⟩
structure NmI (s : ByteArray) (i p : Nat) : Prop where
  a : i + p ≤ s.size
  k : runOf nmc s i = runOf nmc s (i + p)
theorem NmI.size {s : ByteArray} {i p : Nat} (h : NmI s i p) : (s.extract i s.size).size = s.size - i := by
  rw [ByteArray.size_extract, Nat.min_self]
theorem NmI.byte {s : ByteArray} {i p : Nat} (h : NmI s i p) (hp : p < (s.extract i s.size).size) : bAt (s.extract i s.size) p = bAt s (i + p) := by
  rw [h.size] at hp
  exact bAt_extract (ler _) hp
theorem NmI.dec {s : ByteArray} {i p : Nat} (h : NmI s i p) (hp : p < (s.extract i s.size).size) (hc : ((Utf8.decode (s.extract i s.size) p).1 : Int) < 128) : (((Utf8.decode (s.extract i s.size) p).1 : Nat) : Int) = ((bAt s (i + p)).toNat : Int) ∧ nextPos (s.extract i s.size) p = p + 1 := by
  have := (dec_case hp).1 hc
  rw [h.byte hp] at this
  refine ⟨by rw [this], ?_⟩
  rw [nextPos, if_pos hp, this]
theorem NmI.next {s : ByteArray} {i p : Nat} (h : NmI s i p) (hp : p < (s.extract i s.size).size) (hc : ((Utf8.decode (s.extract i s.size) p).1 : Int) < 128) (hl : nmc ((Utf8.decode (s.extract i s.size) p).1 : Int) = true) : NmI s i (p + 1) := by
  rw [(h.dec hp hc).1] at hl
  have hz := h.size
  refine ⟨by omega, ?_⟩
  rw [h.k, runOf_go (by omega) hl]
  rfl
theorem NmI.stop {s : ByteArray} {i p : Nat} (h : NmI s i p) (hp : p < (s.extract i s.size).size) (hl : 128 ≤ ((Utf8.decode (s.extract i s.size) p).1 : Int) ∨ nmc ((Utf8.decode (s.extract i s.size) p).1 : Int) = false) : runOf nmc s i = i + p := by
  rw [h.k]
  apply runOf_stop
  rintro ⟨_, hh⟩
  by_cases hc : ((Utf8.decode (s.extract i s.size) p).1 : Int) < 128
  · rw [← (h.dec hp hc).1] at hh
    rcases hl with hl | hl
    · omega
    · rw [hl] at hh; cases hh
  · have := (dec_case hp).2 (by omega)
    rw [h.byte hp] at this
    simp only [nmc, isLetter, isDigit, Bool.or_eq_true, Bool.and_eq_true, dtt, bqi] at hh
    omega
theorem NmI.over {s : ByteArray} {i p : Nat} (h : NmI s i p) (hp : (s.extract i s.size).size ≤ p) : runOf nmc s i = s.size := by
  have := h.size
  have ha := h.a
  have e : i + p = s.size ∨ s.size < i := by omega
  rcases e with e | e
  · rw [h.k, e]
    exact runOf_stop (by omega)
  · omega

theorem en_86 : enters Tryd.prog 86 = true := by kernel_rfl
theorem un_21 : Tryd.prog.underlying 21 = some (TypeDesc.int IntKind.i32) := by kernel_rfl

set_option maxHeartbeats 1000000 in
theorem name2_s (s : ByteArray) (i : Nat) (hs : s.size ≤ 10000000000000) (hi : i ≤ s.size) : Am.Spec Tryd.prog 72 [A.val (.string s), A.i64 (i : Int)] [] (resA (nameM s i)) [] := by
  refine spec_ofN (n := 56) Tryd.func72 rfl rfl (nb rfl) ?_
  show AW _ _ (⟨[(0, A.val (.string s)), (1, A.i64 (i : Int))], [], []⟩ : St) _
  refine AW.seq ?_
  refine AW.region ?_
  refine AL.go (OpR.plain rfl (r_alloc 101 ti_71 zc_71 rfl rfl (nb rfl))) ?_
  refine AL.go (OpR.plain rfl (r_assign rfl (nb rfl) (by rintro _ ⟨⟩; rfl))) ?_
  refine AL.go (OpR.plain rfl (r_assign rfl (nb rfl) (by rintro _ ⟨⟩; rfl))) ?_
  refine AL.nil ?_
  refine thenN ?_
  refine AW.seq ?_
  refine AW.region ?_
  refine AL.go (OpR.plain rfl (r_move rfl (nb rfl) (by rintro _ ⟨⟩))) ?_
  refine AL.go (OpR.plain rfl (r_lens un_9 rfl (nb rfl))) ?_
  refine AL.go (OpR.plain rfl (r_assign rfl (nb rfl) (by rintro _ ⟨⟩))) ?_
  refine AL.nil ?_
  refine thenN ?_
  refine AW.seq ?_
  refine AW.seq ?_
  refine AW.region ?_
  refine AL.go (OpR.plain rfl (r_move rfl (nb rfl) (by rintro _ ⟨⟩))) ?_
  refine AL.go (OpR.plain rfl (r_move rfl (nb rfl) (by rintro _ ⟨⟩))) ?_
  refine AL.go (OpR.plain rfl (r_substrFrom un_9 rfl rfl (nb rfl) (by first | omega | (simp only [Int.toNat_natCast] at *; omega)) (by first | omega | (simp only [Int.toNat_natCast] at *; omega)))) ?_
  refine AL.go (OpR.plain rfl (r_range 102 un_9 rfl rfl (nb rfl))) ?_
  refine AL.nil ?_
  refine thenN ?_
  refine AW.block ?_
  refine AW.loop (ι := { x : Nat // NmI s i x }) (fun x => ⟨[(0, A.val (.string s)), (1, A.i64 (i : Int)), (4, A.c (.ref 101 0)), (7, A.i64 (s.size : Int)), (16, A.c (.ref 102 0))], [(101, .box [.d (.v (.int .i64 0)), .d (.v (.string { data := #[] })), .d (.v (.int .i64 0)), .d (.v (.int .i64 0))]), (102, .iter (s.extract i s.size) x.1)], []⟩) (fun x => s.size - x.1) ⟨0, ⟨by omega, rfl⟩⟩ (weakens_id (.cons rfl (A.le_of_eq (by first | rfl | (simp [A.ren, C.ren, renOf, lk]; done) | (simp [A.ren, C.ren, renOf, lk]; omega) | omega)) (.cons rfl (A.le_of_eq (by first | rfl | (simp [A.ren, C.ren, renOf, lk]; done) | (simp [A.ren, C.ren, renOf, lk]; omega) | omega)) (.cons rfl (A.le_of_eq (by first | rfl | (simp [A.ren, C.ren, renOf, lk]; done) | (simp [A.ren, C.ren, renOf, lk]; omega) | omega)) (.cons rfl (A.le_of_eq (by first | rfl | (simp [A.ren, C.ren, renOf, lk]; done) | (simp [A.ren, C.ren, renOf, lk]; omega) | omega)) (.cons rfl (A.le_of_eq (by first | rfl | (simp [A.ren, C.ren, renOf, lk]; done) | (simp [A.ren, C.ren, renOf, lk]; omega) | omega)) .nil))))) (.cons rfl (Ob.le_refl _) (.cons rfl (Ob.le_of_eq (by simp)) .nil)) rfl rfl rfl rfl) ?_
  rintro ⟨pP, hI⟩
  have hIa := hI.a; have hIz := hI.size
  show AW _ _ (⟨[(0, A.val (.string s)), (1, A.i64 (i : Int)), (4, A.c (.ref 101 0)), (7, A.i64 (s.size : Int)), (16, A.c (.ref 102 0))], [(101, .box [.d (.v (.int .i64 0)), .d (.v (.string { data := #[] })), .d (.v (.int .i64 0)), .d (.v (.int .i64 0))]), (102, .iter (s.extract i s.size) pP)], []⟩ : St) _
  refine AW.seq ?_
  refine AW.region ?_
  refine AL.go (OpR.plain rfl (r_next rfl rfl (nb rfl))) ?_
  refine AL.go (OpR.plain rfl (r_extract (r := A.bool (decide (pP < (s.extract i s.size).size))) rfl (by unfold nextA; split <;> simp_all) (nb rfl))) ?_
  refine AL.nil ?_
  refine thenN ?_
  refine AW.seq ?_
  refine AW.condb rfl (fun h1 => ?_) (fun h1 => ?_)
  · have h1n := h1; try simp only [dtt, dff, bqi, bqf, bni, bnf, nt1, nf1, nt0, nf0, ne_eq, ilt, ile, Int.toNat_natCast] at h1n
    refine AW.skip ?_
    refine thenN ?_
    refine AW.block ?_
    refine AW.seq ?_
    refine AW.region ?_
    refine AL.go (OpR.plain rfl (r_extract (r := A.i64 pP) rfl (by rw [nextA, if_pos (by simpa using h1)]; rfl) (nb rfl))) ?_
    refine AL.go (OpR.plain rfl (r_extract (r := A.val (.int .i32 (Utf8.decode (s.extract i s.size) pP).1)) rfl (by rw [nextA, if_pos (by simpa using h1)]; rfl) (nb rfl))) ?_
    refine AL.go (OpR.plain rfl (r_assign rfl (nb rfl) (by rintro _ ⟨⟩))) ?_
    refine AL.go (OpR.plain rfl (r_assign rfl (nb rfl) (by rintro _ ⟨⟩))) ?_
    refine AL.nil ?_
    refine thenN ?_
    refine AW.seq ?_
    refine AW.region ?_
    refine AL.go (OpR.plain rfl (r_move rfl (nb rfl) (by rintro _ ⟨⟩))) ?_
    refine AL.go (OpR.plain rfl (r_bin rfl rfl (nb rfl) rfl (run_int_geq _ _ _))) ?_
    refine AL.go (OpR.plain rfl (r_move rfl (nb rfl) (by rintro _ ⟨⟩))) ?_
    refine AL.ifb (t := 23) rfl (fun h2 => ?_) (fun h2 => ?_)
    · have h2n := h2; try simp only [dtt, dff, bqi, bqf, bni, bnf, nt1, nf1, nt0, nf0, ne_eq, ilt, ile, Int.toNat_natCast] at h2n
      refine AL.go (.off rfl rfl (nb rfl) rfl (by rw [h2]; decide) rfl (nb rfl)) ?_
      refine AL.go (.off rfl rfl (nb rfl) rfl (by rw [h2]; decide) rfl (nb rfl)) ?_
      refine AL.go (.off rfl rfl (nb rfl) rfl (by rw [h2]; decide) rfl (nb rfl)) ?_
      refine AL.go (.off rfl rfl (nb rfl) rfl (by rw [h2]; decide) rfl (nb rfl)) ?_
      refine AL.go (.off rfl rfl (nb rfl) rfl (by rw [h2]; decide) rfl (nb rfl)) ?_
      refine AL.go (.offU rfl rfl (nb rfl) rfl rfl (nb rfl)) ?_
      refine AL.go (.offU rfl rfl (nb rfl) rfl rfl (nb rfl)) ?_
      refine AL.go (.offU rfl rfl (nb rfl) rfl rfl (nb rfl)) ?_
      refine AL.go (.offU rfl rfl (nb rfl) rfl rfl (nb rfl)) ?_
      refine AL.go (.off rfl rfl (nb rfl) rfl (by rw [h2]; decide) rfl (nb rfl)) ?_
      refine AL.go (OpR.plain rfl (r_pickTb rfl (h2) rfl (nb rfl) (by rintro _ ⟨⟩; rfl))) ?_
      refine AL.nil ?_
      refine thenN ?_
      refine AW.condT rfl (rfl) ?_
      refine AW.seq ?_
      refine AW.region ?_
      refine AL.go (OpR.plain rfl (r_move rfl (nb rfl) (by rintro _ ⟨⟩))) ?_
      refine AL.go (OpR.plain rfl (r_move rfl (nb rfl) (by rintro _ ⟨⟩))) ?_
      refine AL.go (OpR.plain rfl (r_add rfl rfl (nb rfl) (by first | omega | (simp only [Int.toNat_natCast] at *; omega)) (by first | omega | (simp only [Int.toNat_natCast] at *; omega)))) ?_
      refine AL.go (OpR.plain rfl (r_assign rfl (nb rfl) (by rintro _ ⟨⟩))) ?_
      refine AL.nil ?_
      refine thenN ?_
      refine AW.exit ?_
      refine inbX (by decide) ?_
      refine thenX ?_
      refine inbE ?_
      refine thenN ?_
      refine AW.seq ?_
      refine AW.seq ?_
      refine AW.region ?_
      refine AL.go (OpR.plain rfl (r_move rfl (nb rfl) (by rintro _ ⟨⟩))) ?_
      refine AL.go (OpR.plain rfl (r_move rfl (nb rfl) (by rintro _ ⟨⟩))) ?_
      refine AL.go (OpR.plain rfl (r_sub rfl rfl (nb rfl) (by first | omega | (simp only [Int.toNat_natCast] at *; omega)) (by first | omega | (simp only [Int.toNat_natCast] at *; omega)))) ?_
      refine AL.go (OpR.plain rfl (r_bin rfl rfl (nb rfl) rfl (run_int_gtr _ _ _))) ?_
      refine AL.nil ?_
      refine thenN ?_
      refine AW.condb rfl (fun h3 => ?_) (fun h3 => ?_)
      · have h3n := h3; try simp only [dtt, dff, bqi, bqf, bni, bnf, nt1, nf1, nt0, nf0, ne_eq, ilt, ile, Int.toNat_natCast] at h3n
        refine AW.seq ?_
        refine AW.region ?_
        refine AL.go (OpR.plain rfl (r_build pl_71 rfl zc_71 rfl rfl (by simp only [fillC, putAt, gez, ges, if_true, and_self, Nat.reduceLeDiff, true_and, tks, tkz, tkn, dps, dpz, cap, nap, apn, lnc, lnn, zad, Nat.reduceAdd, adz]; rfl) (nb rfl))) ?_
        refine AL.go (OpR.plain rfl (r_move rfl (nb rfl) (by rintro _ ⟨⟩))) ?_
        refine AL.go (OpR.plain rfl (r_storeN ti_71 rfl rfl rfl rfl rfl (nb rfl) (by simp only [putAt, tks, tkz, tkn, dps, dpz, cap, nap, apn, lnc, lnn, zad, Nat.reduceAdd, adz]; rfl) (by rintro _ ⟨⟩))) ?_
        refine AL.go (OpR.plain rfl (r_assign rfl (nb rfl) (by rintro _ ⟨⟩))) ?_
        refine AL.go (OpR.plain rfl (r_assign rfl (nb rfl) (by rintro _ ⟨⟩; rfl))) ?_
        refine AL.nil ?_
        refine thenN ?_
        refine AW.ret ?_
        refine thenR ?_
        refine fin_id (.inr rfl) (ends_of rfl (.cell ti_71 rfl rfl (by simp only [loaded, if_true, ler, tks, tkz, tkn, dps, dpz, cap, nap, apn, lnc, lnn, zad, Nat.reduceAdd, adz]; rfl) (.tmp rfl (.tmp rfl .nil)))) ?_ .nil rfl rfl rfl rfl
        simp only [retA]
        refine A.le_of_eq ?_
        first | (have hr := hI.stop (by omega) (by simp only [nmc, Bool.or_eq_false_iff]; first | (left; omega) | (right; exact ⟨h5n, h6n⟩)); simp only [nameM, hr]; first | (rw [if_pos (by omega)]; done) | (rw [if_neg (by omega)]; simp_all [to_nat_add]; done)) | (have hr := hI.over (by omega); simp only [nameM, hr]; first | (rw [if_pos (by omega)]; done) | (rw [if_neg (by omega)]; simp_all [to_nat_add]; done))
      · have h3n := h3; try simp only [dtt, dff, bqi, bqf, bni, bnf, nt1, nf1, nt0, nf0, ne_eq, ilt, ile, Int.toNat_natCast] at h3n
        refine AW.skip ?_
        refine thenN ?_
        refine AW.seq ?_
        refine AW.region ?_
        refine AL.go (OpR.plain rfl (r_move rfl (nb rfl) (by rintro _ ⟨⟩))) ?_
        refine AL.go (OpR.plain rfl (r_move rfl (nb rfl) (by rintro _ ⟨⟩))) ?_
        refine AL.go (OpR.plain rfl (r_move rfl (nb rfl) (by rintro _ ⟨⟩))) ?_
        refine AL.go (OpR.plain rfl (r_substr un_9 rfl rfl rfl (nb rfl) (by first | omega | (simp only [Int.toNat_natCast] at *; omega)) (by first | omega | (simp only [Int.toNat_natCast] at *; omega)) (by first | omega | (simp only [Int.toNat_natCast] at *; omega)))) ?_
        refine AL.go (OpR.plain rfl (r_move rfl (nb rfl) (by rintro _ ⟨⟩))) ?_
        refine AL.go (OpR.plain rfl (r_build pl_71 rfl zc_71 rfl rfl (by simp only [fillC, putAt, gez, ges, if_true, and_self, Nat.reduceLeDiff, true_and, tks, tkz, tkn, dps, dpz, cap, nap, apn, lnc, lnn, zad, Nat.reduceAdd, adz]; rfl) (nb rfl))) ?_
        refine AL.go (OpR.plain rfl (r_alloc 103 ti_71 zc_71 rfl rfl (nb rfl))) ?_
        refine AL.go (OpR.plain rfl (r_storeN ti_71 rfl rfl rfl rfl rfl (nb rfl) (by simp only [putAt, tks, tkz, tkn, dps, dpz, cap, nap, apn, lnc, lnn, zad, Nat.reduceAdd, adz]; rfl) (by rintro _ ⟨⟩))) ?_
        refine AL.nil ?_
        refine thenN ?_
        refine AW.seq ?_
        refine AW.seq ?_
        refine AW.region ?_
        first | refine AL.go (OpR.plain rfl (r_fieldAddr fo_71_1 (by decide) rfl (nb rfl))) ?_ | refine AL.go (OpR.plain rfl (r_fieldAddrp fo_71_1 (by decide) rfl (nb rfl))) ?_
        first | refine AL.go (OpR.plain rfl (r_load ti_9 rfl rfl rfl (nb rfl))) ?_ | refine AL.go (OpR.plain rfl (r_loadp ti_9 rfl rfl (nb rfl))) ?_
        refine AL.go (OpR.plain rfl (r_callFun (word_s _) en_86 rfl rfl rfl rfl (.cons (A.le_refl _) .nil) rfl (nb rfl))) ?_
        refine AL.nil ?_
        refine thenN ?_
        refine AW.condb rfl (fun h4 => ?_) (fun h4 => ?_)
        · have h4n := h4; try simp only [dtt, dff, bqi, bqf, bni, bnf, nt1, nf1, nt0, nf0, ne_eq, ilt, ile, Int.toNat_natCast] at h4n
          refine AW.region ?_
          first | refine AL.go (OpR.plain rfl (r_fieldAddr fo_71_0 (by decide) rfl (nb rfl))) ?_ | refine AL.go (OpR.plain rfl (r_fieldAddrp fo_71_0 (by decide) rfl (nb rfl))) ?_
          refine AL.go (OpR.plain rfl (r_storeN ti_3 rfl rfl rfl rfl rfl (nb rfl) (by simp only [putAt, tks, tkz, tkn, dps, dpz, cap, nap, apn, lnc, lnn, zad, Nat.reduceAdd, adz]; rfl) (by rintro _ ⟨⟩; rfl))) ?_
          refine AL.nil ?_
          refine thenN ?_
          refine AW.seq ?_
          refine AW.region ?_
          first | refine AL.go (OpR.plain rfl (r_load ti_71 rfl rfl (by simp only [loaded, mpc, mpn, if_true, ler, tks, tkz, tkn, dps, dpz, cap, nap, apn, lnc, lnn, zad, Nat.reduceAdd, adz]; rfl) (nb rfl))) ?_ | refine AL.go (OpR.plain rfl (r_loadp ti_71 rfl (by simp only [loaded, mpc, mpn, if_true, ler, tks, tkz, tkn, dps, dpz, cap, nap, apn, lnc, lnn, zad, Nat.reduceAdd, adz]; rfl) (nb rfl))) ?_
          refine AL.go (OpR.plain rfl (r_move rfl (nb rfl) (by rintro _ ⟨⟩))) ?_
          refine AL.go (OpR.plain rfl (r_storeN ti_71 rfl rfl rfl rfl rfl (nb rfl) (by simp only [putAt, tks, tkz, tkn, dps, dpz, cap, nap, apn, lnc, lnn, zad, Nat.reduceAdd, adz]; rfl) (by rintro _ ⟨⟩))) ?_
          refine AL.go (OpR.plain rfl (r_assign rfl (nb rfl) (by rintro _ ⟨⟩))) ?_
          refine AL.go (OpR.plain rfl (r_assign rfl (nb rfl) (by rintro _ ⟨⟩; rfl))) ?_
          refine AL.nil ?_
          refine thenN ?_
          refine AW.ret ?_
          refine fin_id (.inr rfl) (ends_of rfl (.cell ti_71 rfl rfl (by simp only [loaded, if_true, ler, tks, tkz, tkn, dps, dpz, cap, nap, apn, lnc, lnn, zad, Nat.reduceAdd, adz]; rfl) (.tmp rfl (.tmp rfl .nil)))) ?_ .nil rfl rfl rfl rfl
          simp only [retA]
          refine A.le_of_eq ?_
          first | (have hr := hI.stop (by omega) (by simp only [nmc, Bool.or_eq_false_iff]; first | (left; omega) | (right; exact ⟨h5n, h6n⟩)); simp only [nameM, hr]; first | (rw [if_pos (by omega)]; done) | (rw [if_neg (by omega)]; simp_all [to_nat_add]; done)) | (have hr := hI.over (by omega); simp only [nameM, hr]; first | (rw [if_pos (by omega)]; done) | (rw [if_neg (by omega)]; simp_all [to_nat_add]; done))
        · have h4n := h4; try simp only [dtt, dff, bqi, bqf, bni, bnf, nt1, nf1, nt0, nf0, ne_eq, ilt, ile, Int.toNat_natCast] at h4n
          refine AW.skip ?_
          refine thenN ?_
          refine AW.seq ?_
          refine AW.region ?_
          first | refine AL.go (OpR.plain rfl (r_load ti_71 rfl rfl (by simp only [loaded, mpc, mpn, if_true, ler, tks, tkz, tkn, dps, dpz, cap, nap, apn, lnc, lnn, zad, Nat.reduceAdd, adz]; rfl) (nb rfl))) ?_ | refine AL.go (OpR.plain rfl (r_loadp ti_71 rfl (by simp only [loaded, mpc, mpn, if_true, ler, tks, tkz, tkn, dps, dpz, cap, nap, apn, lnc, lnn, zad, Nat.reduceAdd, adz]; rfl) (nb rfl))) ?_
          refine AL.go (OpR.plain rfl (r_move rfl (nb rfl) (by rintro _ ⟨⟩))) ?_
          refine AL.go (OpR.plain rfl (r_storeN ti_71 rfl rfl rfl rfl rfl (nb rfl) (by simp only [putAt, tks, tkz, tkn, dps, dpz, cap, nap, apn, lnc, lnn, zad, Nat.reduceAdd, adz]; rfl) (by rintro _ ⟨⟩))) ?_
          refine AL.go (OpR.plain rfl (r_assign rfl (nb rfl) (by rintro _ ⟨⟩))) ?_
          refine AL.go (OpR.plain rfl (r_assign rfl (nb rfl) (by rintro _ ⟨⟩; rfl))) ?_
          refine AL.nil ?_
          refine thenN ?_
          refine AW.ret ?_
          refine fin_id (.inr rfl) (ends_of rfl (.cell ti_71 rfl rfl (by simp only [loaded, if_true, ler, tks, tkz, tkn, dps, dpz, cap, nap, apn, lnc, lnn, zad, Nat.reduceAdd, adz]; rfl) (.tmp rfl (.tmp rfl .nil)))) ?_ .nil rfl rfl rfl rfl
          simp only [retA]
          refine A.le_of_eq ?_
          first | (have hr := hI.stop (by omega) (by simp only [nmc, Bool.or_eq_false_iff]; first | (left; omega) | (right; exact ⟨h5n, h6n⟩)); simp only [nameM, hr]; first | (rw [if_pos (by omega)]; done) | (rw [if_neg (by omega)]; simp_all [to_nat_add]; done)) | (have hr := hI.over (by omega); simp only [nameM, hr]; first | (rw [if_pos (by omega)]; done) | (rw [if_neg (by omega)]; simp_all [to_nat_add]; done))
    · have h2n := h2; try simp only [dtt, dff, bqi, bqf, bni, bnf, nt1, nf1, nt0, nf0, ne_eq, ilt, ile, Int.toNat_natCast] at h2n
      refine AL.go (OpR.onb rfl rfl (nb rfl) rfl (h2) (r_move rfl (nb rfl) (by rintro _ ⟨⟩))) ?_
      refine AL.go (OpR.onb rfl rfl (nb rfl) rfl (h2) (r_convB un_21 un_5 rfl (nb rfl) (by first | omega | (simp only [Int.toNat_natCast] at *; omega)) (by first | omega | (simp only [Int.toNat_natCast] at *; omega)))) ?_
      refine AL.go (OpR.onb rfl rfl (nb rfl) rfl (h2) (r_callFun (letter_s _) en_71 rfl rfl rfl rfl (.cons (A.le_refl _) .nil) rfl (nb rfl))) ?_
      refine AL.go (OpR.onb rfl rfl (nb rfl) rfl (h2) (r_not rfl (nb rfl))) ?_
      refine AL.go (OpR.onb rfl rfl (nb rfl) rfl (h2) (r_move rfl (nb rfl) (by rintro _ ⟨⟩))) ?_
      refine AL.ifb (t := 28) rfl (fun h5 => ?_) (fun h5 => ?_)
      · have h5n := h5; try simp only [dtt, dff, bqi, bqf, bni, bnf, nt1, nf1, nt0, nf0, ne_eq, ilt, ile, Int.toNat_natCast] at h5n
        refine AL.go (OpR.onb rfl rfl (nb rfl) rfl (h5) (r_move rfl (nb rfl) (by rintro _ ⟨⟩))) ?_
        refine AL.go (OpR.onb rfl rfl (nb rfl) rfl (h5) (r_convB un_21 un_5 rfl (nb rfl) (by first | omega | (simp only [Int.toNat_natCast] at *; omega)) (by first | omega | (simp only [Int.toNat_natCast] at *; omega)))) ?_
        refine AL.go (OpR.onb rfl rfl (nb rfl) rfl (h5) (r_callFun (digit_s _) en_73 rfl rfl rfl rfl (.cons (A.le_refl _) .nil) rfl (nb rfl))) ?_
        refine AL.go (OpR.onb rfl rfl (nb rfl) rfl (h5) (r_not rfl (nb rfl))) ?_
        refine AL.go (OpR.onb rfl rfl (nb rfl) rfl (h2) (r_pickTb rfl (h5) rfl (nb rfl) (by rintro _ ⟨⟩))) ?_
        refine AL.go (OpR.plain rfl (r_pickFb rfl (h2) rfl (nb rfl) (by rintro _ ⟨⟩))) ?_
        refine AL.nil ?_
        refine thenN ?_
        refine AW.condb rfl (fun h6 => ?_) (fun h6 => ?_)
        · have h6n := h6; try simp only [dtt, dff, bqi, bqf, bni, bnf, nt1, nf1, nt0, nf0, ne_eq, ilt, ile, Int.toNat_natCast] at h6n
          refine AW.seq ?_
          refine AW.region ?_
          refine AL.go (OpR.plain rfl (r_move rfl (nb rfl) (by rintro _ ⟨⟩))) ?_
          refine AL.go (OpR.plain rfl (r_move rfl (nb rfl) (by rintro _ ⟨⟩))) ?_
          refine AL.go (OpR.plain rfl (r_add rfl rfl (nb rfl) (by first | omega | (simp only [Int.toNat_natCast] at *; omega)) (by first | omega | (simp only [Int.toNat_natCast] at *; omega)))) ?_
          refine AL.go (OpR.plain rfl (r_assign rfl (nb rfl) (by rintro _ ⟨⟩))) ?_
          refine AL.nil ?_
          refine thenN ?_
          refine AW.exit ?_
          refine inbX (by decide) ?_
          refine thenX ?_
          refine inbE ?_
          refine thenN ?_
          refine AW.seq ?_
          refine AW.seq ?_
          refine AW.region ?_
          refine AL.go (OpR.plain rfl (r_move rfl (nb rfl) (by rintro _ ⟨⟩))) ?_
          refine AL.go (OpR.plain rfl (r_move rfl (nb rfl) (by rintro _ ⟨⟩))) ?_
          refine AL.go (OpR.plain rfl (r_sub rfl rfl (nb rfl) (by first | omega | (simp only [Int.toNat_natCast] at *; omega)) (by first | omega | (simp only [Int.toNat_natCast] at *; omega)))) ?_
          refine AL.go (OpR.plain rfl (r_bin rfl rfl (nb rfl) rfl (run_int_gtr _ _ _))) ?_
          refine AL.nil ?_
          refine thenN ?_
          refine AW.condb rfl (fun h7 => ?_) (fun h7 => ?_)
          · have h7n := h7; try simp only [dtt, dff, bqi, bqf, bni, bnf, nt1, nf1, nt0, nf0, ne_eq, ilt, ile, Int.toNat_natCast] at h7n
            refine AW.seq ?_
            refine AW.region ?_
            refine AL.go (OpR.plain rfl (r_build pl_71 rfl zc_71 rfl rfl (by simp only [fillC, putAt, gez, ges, if_true, and_self, Nat.reduceLeDiff, true_and, tks, tkz, tkn, dps, dpz, cap, nap, apn, lnc, lnn, zad, Nat.reduceAdd, adz]; rfl) (nb rfl))) ?_
            refine AL.go (OpR.plain rfl (r_move rfl (nb rfl) (by rintro _ ⟨⟩))) ?_
            refine AL.go (OpR.plain rfl (r_storeN ti_71 rfl rfl rfl rfl rfl (nb rfl) (by simp only [putAt, tks, tkz, tkn, dps, dpz, cap, nap, apn, lnc, lnn, zad, Nat.reduceAdd, adz]; rfl) (by rintro _ ⟨⟩))) ?_
            refine AL.go (OpR.plain rfl (r_assign rfl (nb rfl) (by rintro _ ⟨⟩))) ?_
            refine AL.go (OpR.plain rfl (r_assign rfl (nb rfl) (by rintro _ ⟨⟩; rfl))) ?_
            refine AL.nil ?_
            refine thenN ?_
            refine AW.ret ?_
            refine thenR ?_
            refine fin_id (.inr rfl) (ends_of rfl (.cell ti_71 rfl rfl (by simp only [loaded, if_true, ler, tks, tkz, tkn, dps, dpz, cap, nap, apn, lnc, lnn, zad, Nat.reduceAdd, adz]; rfl) (.tmp rfl (.tmp rfl .nil)))) ?_ .nil rfl rfl rfl rfl
            simp only [retA]
            refine A.le_of_eq ?_
            first | (have hr := hI.stop (by omega) (by simp only [nmc, Bool.or_eq_false_iff]; first | (left; omega) | (right; exact ⟨h5n, h6n⟩)); simp only [nameM, hr]; first | (rw [if_pos (by omega)]; done) | (rw [if_neg (by omega)]; simp_all [to_nat_add]; done)) | (have hr := hI.over (by omega); simp only [nameM, hr]; first | (rw [if_pos (by omega)]; done) | (rw [if_neg (by omega)]; simp_all [to_nat_add]; done))
          · have h7n := h7; try simp only [dtt, dff, bqi, bqf, bni, bnf, nt1, nf1, nt0, nf0, ne_eq, ilt, ile, Int.toNat_natCast] at h7n
            refine AW.skip ?_
            refine thenN ?_
            refine AW.seq ?_
            refine AW.region ?_
            refine AL.go (OpR.plain rfl (r_move rfl (nb rfl) (by rintro _ ⟨⟩))) ?_
            refine AL.go (OpR.plain rfl (r_move rfl (nb rfl) (by rintro _ ⟨⟩))) ?_
            refine AL.go (OpR.plain rfl (r_move rfl (nb rfl) (by rintro _ ⟨⟩))) ?_
            refine AL.go (OpR.plain rfl (r_substr un_9 rfl rfl rfl (nb rfl) (by first | omega | (simp only [Int.toNat_natCast] at *; omega)) (by first | omega | (simp only [Int.toNat_natCast] at *; omega)) (by first | omega | (simp only [Int.toNat_natCast] at *; omega)))) ?_
            refine AL.go (OpR.plain rfl (r_move rfl (nb rfl) (by rintro _ ⟨⟩))) ?_
            refine AL.go (OpR.plain rfl (r_build pl_71 rfl zc_71 rfl rfl (by simp only [fillC, putAt, gez, ges, if_true, and_self, Nat.reduceLeDiff, true_and, tks, tkz, tkn, dps, dpz, cap, nap, apn, lnc, lnn, zad, Nat.reduceAdd, adz]; rfl) (nb rfl))) ?_
            refine AL.go (OpR.plain rfl (r_alloc 103 ti_71 zc_71 rfl rfl (nb rfl))) ?_
            refine AL.go (OpR.plain rfl (r_storeN ti_71 rfl rfl rfl rfl rfl (nb rfl) (by simp only [putAt, tks, tkz, tkn, dps, dpz, cap, nap, apn, lnc, lnn, zad, Nat.reduceAdd, adz]; rfl) (by rintro _ ⟨⟩))) ?_
            refine AL.nil ?_
            refine thenN ?_
            refine AW.seq ?_
            refine AW.seq ?_
            refine AW.region ?_
            first | refine AL.go (OpR.plain rfl (r_fieldAddr fo_71_1 (by decide) rfl (nb rfl))) ?_ | refine AL.go (OpR.plain rfl (r_fieldAddrp fo_71_1 (by decide) rfl (nb rfl))) ?_
            first | refine AL.go (OpR.plain rfl (r_load ti_9 rfl rfl rfl (nb rfl))) ?_ | refine AL.go (OpR.plain rfl (r_loadp ti_9 rfl rfl (nb rfl))) ?_
            refine AL.go (OpR.plain rfl (r_callFun (word_s _) en_86 rfl rfl rfl rfl (.cons (A.le_refl _) .nil) rfl (nb rfl))) ?_
            refine AL.nil ?_
            refine thenN ?_
            refine AW.condb rfl (fun h8 => ?_) (fun h8 => ?_)
            · have h8n := h8; try simp only [dtt, dff, bqi, bqf, bni, bnf, nt1, nf1, nt0, nf0, ne_eq, ilt, ile, Int.toNat_natCast] at h8n
              refine AW.region ?_
              first | refine AL.go (OpR.plain rfl (r_fieldAddr fo_71_0 (by decide) rfl (nb rfl))) ?_ | refine AL.go (OpR.plain rfl (r_fieldAddrp fo_71_0 (by decide) rfl (nb rfl))) ?_
              refine AL.go (OpR.plain rfl (r_storeN ti_3 rfl rfl rfl rfl rfl (nb rfl) (by simp only [putAt, tks, tkz, tkn, dps, dpz, cap, nap, apn, lnc, lnn, zad, Nat.reduceAdd, adz]; rfl) (by rintro _ ⟨⟩; rfl))) ?_
              refine AL.nil ?_
              refine thenN ?_
              refine AW.seq ?_
              refine AW.region ?_
              first | refine AL.go (OpR.plain rfl (r_load ti_71 rfl rfl (by simp only [loaded, mpc, mpn, if_true, ler, tks, tkz, tkn, dps, dpz, cap, nap, apn, lnc, lnn, zad, Nat.reduceAdd, adz]; rfl) (nb rfl))) ?_ | refine AL.go (OpR.plain rfl (r_loadp ti_71 rfl (by simp only [loaded, mpc, mpn, if_true, ler, tks, tkz, tkn, dps, dpz, cap, nap, apn, lnc, lnn, zad, Nat.reduceAdd, adz]; rfl) (nb rfl))) ?_
              refine AL.go (OpR.plain rfl (r_move rfl (nb rfl) (by rintro _ ⟨⟩))) ?_
              refine AL.go (OpR.plain rfl (r_storeN ti_71 rfl rfl rfl rfl rfl (nb rfl) (by simp only [putAt, tks, tkz, tkn, dps, dpz, cap, nap, apn, lnc, lnn, zad, Nat.reduceAdd, adz]; rfl) (by rintro _ ⟨⟩))) ?_
              refine AL.go (OpR.plain rfl (r_assign rfl (nb rfl) (by rintro _ ⟨⟩))) ?_
              refine AL.go (OpR.plain rfl (r_assign rfl (nb rfl) (by rintro _ ⟨⟩; rfl))) ?_
              refine AL.nil ?_
              refine thenN ?_
              refine AW.ret ?_
              refine fin_id (.inr rfl) (ends_of rfl (.cell ti_71 rfl rfl (by simp only [loaded, if_true, ler, tks, tkz, tkn, dps, dpz, cap, nap, apn, lnc, lnn, zad, Nat.reduceAdd, adz]; rfl) (.tmp rfl (.tmp rfl .nil)))) ?_ .nil rfl rfl rfl rfl
              simp only [retA]
              refine A.le_of_eq ?_
              first | (have hr := hI.stop (by omega) (by simp only [nmc, Bool.or_eq_false_iff]; first | (left; omega) | (right; exact ⟨h5n, h6n⟩)); simp only [nameM, hr]; first | (rw [if_pos (by omega)]; done) | (rw [if_neg (by omega)]; simp_all [to_nat_add]; done)) | (have hr := hI.over (by omega); simp only [nameM, hr]; first | (rw [if_pos (by omega)]; done) | (rw [if_neg (by omega)]; simp_all [to_nat_add]; done))
            · have h8n := h8; try simp only [dtt, dff, bqi, bqf, bni, bnf, nt1, nf1, nt0, nf0, ne_eq, ilt, ile, Int.toNat_natCast] at h8n
              refine AW.skip ?_
              refine thenN ?_
              refine AW.seq ?_
              refine AW.region ?_
              first | refine AL.go (OpR.plain rfl (r_load ti_71 rfl rfl (by simp only [loaded, mpc, mpn, if_true, ler, tks, tkz, tkn, dps, dpz, cap, nap, apn, lnc, lnn, zad, Nat.reduceAdd, adz]; rfl) (nb rfl))) ?_ | refine AL.go (OpR.plain rfl (r_loadp ti_71 rfl (by simp only [loaded, mpc, mpn, if_true, ler, tks, tkz, tkn, dps, dpz, cap, nap, apn, lnc, lnn, zad, Nat.reduceAdd, adz]; rfl) (nb rfl))) ?_
              refine AL.go (OpR.plain rfl (r_move rfl (nb rfl) (by rintro _ ⟨⟩))) ?_
              refine AL.go (OpR.plain rfl (r_storeN ti_71 rfl rfl rfl rfl rfl (nb rfl) (by simp only [putAt, tks, tkz, tkn, dps, dpz, cap, nap, apn, lnc, lnn, zad, Nat.reduceAdd, adz]; rfl) (by rintro _ ⟨⟩))) ?_
              refine AL.go (OpR.plain rfl (r_assign rfl (nb rfl) (by rintro _ ⟨⟩))) ?_
              refine AL.go (OpR.plain rfl (r_assign rfl (nb rfl) (by rintro _ ⟨⟩; rfl))) ?_
              refine AL.nil ?_
              refine thenN ?_
              refine AW.ret ?_
              refine fin_id (.inr rfl) (ends_of rfl (.cell ti_71 rfl rfl (by simp only [loaded, if_true, ler, tks, tkz, tkn, dps, dpz, cap, nap, apn, lnc, lnn, zad, Nat.reduceAdd, adz]; rfl) (.tmp rfl (.tmp rfl .nil)))) ?_ .nil rfl rfl rfl rfl
              simp only [retA]
              refine A.le_of_eq ?_
              first | (have hr := hI.stop (by omega) (by simp only [nmc, Bool.or_eq_false_iff]; first | (left; omega) | (right; exact ⟨h5n, h6n⟩)); simp only [nameM, hr]; first | (rw [if_pos (by omega)]; done) | (rw [if_neg (by omega)]; simp_all [to_nat_add]; done)) | (have hr := hI.over (by omega); simp only [nameM, hr]; first | (rw [if_pos (by omega)]; done) | (rw [if_neg (by omega)]; simp_all [to_nat_add]; done))
        · have h6n := h6; try simp only [dtt, dff, bqi, bqf, bni, bnf, nt1, nf1, nt0, nf0, ne_eq, ilt, ile, Int.toNat_natCast] at h6n
          refine AW.skip ?_
          refine inbN ?_
          refine thenN ?_
          refine ⟨⟨pP + 1, hI.next (by omega) (by omega) (by simp only [nmc, Bool.or_eq_true]; first | (left; exact h5n) | (right; exact h6n))⟩, by simp only; omega, weakens_id (.cons rfl (A.le_of_eq (by first | rfl | (simp [A.ren, C.ren, renOf, lk]; done) | (simp [A.ren, C.ren, renOf, lk]; omega) | omega)) (.cons rfl (A.le_of_eq (by first | rfl | (simp [A.ren, C.ren, renOf, lk]; done) | (simp [A.ren, C.ren, renOf, lk]; omega) | omega)) (.cons rfl (A.le_of_eq (by first | rfl | (simp [A.ren, C.ren, renOf, lk]; done) | (simp [A.ren, C.ren, renOf, lk]; omega) | omega)) (.cons rfl (A.le_of_eq (by first | rfl | (simp [A.ren, C.ren, renOf, lk]; done) | (simp [A.ren, C.ren, renOf, lk]; omega) | omega)) (.cons rfl (A.le_of_eq (by first | rfl | (simp [A.ren, C.ren, renOf, lk]; done) | (simp [A.ren, C.ren, renOf, lk]; omega) | omega)) .nil))))) (.cons rfl (Ob.le_refl _) (.cons rfl (Ob.le_of_eq (by rw [(hI.dec (by omega) (by omega)).2])) .nil)) rfl rfl rfl rfl⟩
      · have h5n := h5; try simp only [dtt, dff, bqi, bqf, bni, bnf, nt1, nf1, nt0, nf0, ne_eq, ilt, ile, Int.toNat_natCast] at h5n
        refine AL.go (.off rfl rfl (nb rfl) rfl (by rw [h5]; decide) rfl (nb rfl)) ?_
        refine AL.go (.off rfl rfl (nb rfl) rfl (by rw [h5]; decide) rfl (nb rfl)) ?_
        refine AL.go (.off rfl rfl (nb rfl) rfl (by rw [h5]; decide) rfl (nb rfl)) ?_
        refine AL.go (.off rfl rfl (nb rfl) rfl (by rw [h5]; decide) rfl (nb rfl)) ?_
        refine AL.go (OpR.onb rfl rfl (nb rfl) rfl (h2) (r_pickFb rfl (h5) rfl (nb rfl) (by rintro _ ⟨⟩; rfl))) ?_
        refine AL.go (OpR.plain rfl (r_pickFb rfl (h2) rfl (nb rfl) (by rintro _ ⟨⟩))) ?_
        refine AL.nil ?_
        refine thenN ?_
        refine AW.condF rfl (rfl) ?_
        refine AW.skip ?_
        refine inbN ?_
        refine thenN ?_
        refine ⟨⟨pP + 1, hI.next (by omega) (by omega) (by simp only [nmc, Bool.or_eq_true]; first | (left; exact h5n) | (right; exact h6n))⟩, by simp only; omega, weakens_id (.cons rfl (A.le_of_eq (by first | rfl | (simp [A.ren, C.ren, renOf, lk]; done) | (simp [A.ren, C.ren, renOf, lk]; omega) | omega)) (.cons rfl (A.le_of_eq (by first | rfl | (simp [A.ren, C.ren, renOf, lk]; done) | (simp [A.ren, C.ren, renOf, lk]; omega) | omega)) (.cons rfl (A.le_of_eq (by first | rfl | (simp [A.ren, C.ren, renOf, lk]; done) | (simp [A.ren, C.ren, renOf, lk]; omega) | omega)) (.cons rfl (A.le_of_eq (by first | rfl | (simp [A.ren, C.ren, renOf, lk]; done) | (simp [A.ren, C.ren, renOf, lk]; omega) | omega)) (.cons rfl (A.le_of_eq (by first | rfl | (simp [A.ren, C.ren, renOf, lk]; done) | (simp [A.ren, C.ren, renOf, lk]; omega) | omega)) .nil))))) (.cons rfl (Ob.le_refl _) (.cons rfl (Ob.le_of_eq (by rw [(hI.dec (by omega) (by omega)).2])) .nil)) rfl rfl rfl rfl⟩
  · have h1n := h1; try simp only [dtt, dff, bqi, bqf, bni, bnf, nt1, nf1, nt0, nf0, ne_eq, ilt, ile, Int.toNat_natCast] at h1n
    refine AW.exit ?_
    refine thenX ?_
    refine thenX ?_
    refine inbE ?_
    refine thenN ?_
    refine AW.seq ?_
    refine AW.seq ?_
    refine AW.region ?_
    refine AL.go (OpR.plain rfl (r_move rfl (nb rfl) (by rintro _ ⟨⟩))) ?_
    refine AL.go (OpR.plain rfl (r_move rfl (nb rfl) (by rintro _ ⟨⟩))) ?_
    refine AL.go (OpR.plain rfl (r_sub rfl rfl (nb rfl) (by first | omega | (simp only [Int.toNat_natCast] at *; omega)) (by first | omega | (simp only [Int.toNat_natCast] at *; omega)))) ?_
    refine AL.go (OpR.plain rfl (r_bin rfl rfl (nb rfl) rfl (run_int_gtr _ _ _))) ?_
    refine AL.nil ?_
    refine thenN ?_
    refine AW.condb rfl (fun h9 => ?_) (fun h9 => ?_)
    · have h9n := h9; try simp only [dtt, dff, bqi, bqf, bni, bnf, nt1, nf1, nt0, nf0, ne_eq, ilt, ile, Int.toNat_natCast] at h9n
      refine AW.seq ?_
      refine AW.region ?_
      refine AL.go (OpR.plain rfl (r_build pl_71 rfl zc_71 rfl rfl (by simp only [fillC, putAt, gez, ges, if_true, and_self, Nat.reduceLeDiff, true_and, tks, tkz, tkn, dps, dpz, cap, nap, apn, lnc, lnn, zad, Nat.reduceAdd, adz]; rfl) (nb rfl))) ?_
      refine AL.go (OpR.plain rfl (r_move rfl (nb rfl) (by rintro _ ⟨⟩))) ?_
      refine AL.go (OpR.plain rfl (r_storeN ti_71 rfl rfl rfl rfl rfl (nb rfl) (by simp only [putAt, tks, tkz, tkn, dps, dpz, cap, nap, apn, lnc, lnn, zad, Nat.reduceAdd, adz]; rfl) (by rintro _ ⟨⟩))) ?_
      refine AL.go (OpR.plain rfl (r_assign rfl (nb rfl) (by rintro _ ⟨⟩))) ?_
      refine AL.go (OpR.plain rfl (r_assign rfl (nb rfl) (by rintro _ ⟨⟩; rfl))) ?_
      refine AL.nil ?_
      refine thenN ?_
      refine AW.ret ?_
      refine thenR ?_
      refine fin_id (.inr rfl) (ends_of rfl (.cell ti_71 rfl rfl (by simp only [loaded, if_true, ler, tks, tkz, tkn, dps, dpz, cap, nap, apn, lnc, lnn, zad, Nat.reduceAdd, adz]; rfl) (.tmp rfl (.tmp rfl .nil)))) ?_ .nil rfl rfl rfl rfl
      simp only [retA]
      refine A.le_of_eq ?_
      first | (have hr := hI.stop (by omega) (by simp only [nmc, Bool.or_eq_false_iff]; first | (left; omega) | (right; exact ⟨h5n, h6n⟩)); simp only [nameM, hr]; first | (rw [if_pos (by omega)]; done) | (rw [if_neg (by omega)]; simp_all [to_nat_add]; done)) | (have hr := hI.over (by omega); simp only [nameM, hr]; first | (rw [if_pos (by omega)]; done) | (rw [if_neg (by omega)]; simp_all [to_nat_add]; done))
    · have h9n := h9; try simp only [dtt, dff, bqi, bqf, bni, bnf, nt1, nf1, nt0, nf0, ne_eq, ilt, ile, Int.toNat_natCast] at h9n
      refine AW.skip ?_
      refine thenN ?_
      refine AW.seq ?_
      refine AW.region ?_
      refine AL.go (OpR.plain rfl (r_move rfl (nb rfl) (by rintro _ ⟨⟩))) ?_
      refine AL.go (OpR.plain rfl (r_move rfl (nb rfl) (by rintro _ ⟨⟩))) ?_
      refine AL.go (OpR.plain rfl (r_move rfl (nb rfl) (by rintro _ ⟨⟩))) ?_
      refine AL.go (OpR.plain rfl (r_substr un_9 rfl rfl rfl (nb rfl) (by first | omega | (simp only [Int.toNat_natCast] at *; omega)) (by first | omega | (simp only [Int.toNat_natCast] at *; omega)) (by first | omega | (simp only [Int.toNat_natCast] at *; omega)))) ?_
      refine AL.go (OpR.plain rfl (r_move rfl (nb rfl) (by rintro _ ⟨⟩))) ?_
      refine AL.go (OpR.plain rfl (r_build pl_71 rfl zc_71 rfl rfl (by simp only [fillC, putAt, gez, ges, if_true, and_self, Nat.reduceLeDiff, true_and, tks, tkz, tkn, dps, dpz, cap, nap, apn, lnc, lnn, zad, Nat.reduceAdd, adz]; rfl) (nb rfl))) ?_
      refine AL.go (OpR.plain rfl (r_alloc 103 ti_71 zc_71 rfl rfl (nb rfl))) ?_
      refine AL.go (OpR.plain rfl (r_storeN ti_71 rfl rfl rfl rfl rfl (nb rfl) (by simp only [putAt, tks, tkz, tkn, dps, dpz, cap, nap, apn, lnc, lnn, zad, Nat.reduceAdd, adz]; rfl) (by rintro _ ⟨⟩))) ?_
      refine AL.nil ?_
      refine thenN ?_
      refine AW.seq ?_
      refine AW.seq ?_
      refine AW.region ?_
      first | refine AL.go (OpR.plain rfl (r_fieldAddr fo_71_1 (by decide) rfl (nb rfl))) ?_ | refine AL.go (OpR.plain rfl (r_fieldAddrp fo_71_1 (by decide) rfl (nb rfl))) ?_
      first | refine AL.go (OpR.plain rfl (r_load ti_9 rfl rfl rfl (nb rfl))) ?_ | refine AL.go (OpR.plain rfl (r_loadp ti_9 rfl rfl (nb rfl))) ?_
      refine AL.go (OpR.plain rfl (r_callFun (word_s _) en_86 rfl rfl rfl rfl (.cons (A.le_refl _) .nil) rfl (nb rfl))) ?_
      refine AL.nil ?_
      refine thenN ?_
      refine AW.condb rfl (fun h10 => ?_) (fun h10 => ?_)
      · have h10n := h10; try simp only [dtt, dff, bqi, bqf, bni, bnf, nt1, nf1, nt0, nf0, ne_eq, ilt, ile, Int.toNat_natCast] at h10n
        refine AW.region ?_
        first | refine AL.go (OpR.plain rfl (r_fieldAddr fo_71_0 (by decide) rfl (nb rfl))) ?_ | refine AL.go (OpR.plain rfl (r_fieldAddrp fo_71_0 (by decide) rfl (nb rfl))) ?_
        refine AL.go (OpR.plain rfl (r_storeN ti_3 rfl rfl rfl rfl rfl (nb rfl) (by simp only [putAt, tks, tkz, tkn, dps, dpz, cap, nap, apn, lnc, lnn, zad, Nat.reduceAdd, adz]; rfl) (by rintro _ ⟨⟩; rfl))) ?_
        refine AL.nil ?_
        refine thenN ?_
        refine AW.seq ?_
        refine AW.region ?_
        first | refine AL.go (OpR.plain rfl (r_load ti_71 rfl rfl (by simp only [loaded, mpc, mpn, if_true, ler, tks, tkz, tkn, dps, dpz, cap, nap, apn, lnc, lnn, zad, Nat.reduceAdd, adz]; rfl) (nb rfl))) ?_ | refine AL.go (OpR.plain rfl (r_loadp ti_71 rfl (by simp only [loaded, mpc, mpn, if_true, ler, tks, tkz, tkn, dps, dpz, cap, nap, apn, lnc, lnn, zad, Nat.reduceAdd, adz]; rfl) (nb rfl))) ?_
        refine AL.go (OpR.plain rfl (r_move rfl (nb rfl) (by rintro _ ⟨⟩))) ?_
        refine AL.go (OpR.plain rfl (r_storeN ti_71 rfl rfl rfl rfl rfl (nb rfl) (by simp only [putAt, tks, tkz, tkn, dps, dpz, cap, nap, apn, lnc, lnn, zad, Nat.reduceAdd, adz]; rfl) (by rintro _ ⟨⟩))) ?_
        refine AL.go (OpR.plain rfl (r_assign rfl (nb rfl) (by rintro _ ⟨⟩))) ?_
        refine AL.go (OpR.plain rfl (r_assign rfl (nb rfl) (by rintro _ ⟨⟩; rfl))) ?_
        refine AL.nil ?_
        refine thenN ?_
        refine AW.ret ?_
        refine fin_id (.inr rfl) (ends_of rfl (.cell ti_71 rfl rfl (by simp only [loaded, if_true, ler, tks, tkz, tkn, dps, dpz, cap, nap, apn, lnc, lnn, zad, Nat.reduceAdd, adz]; rfl) (.tmp rfl (.tmp rfl .nil)))) ?_ .nil rfl rfl rfl rfl
        simp only [retA]
        refine A.le_of_eq ?_
        first | (have hr := hI.stop (by omega) (by simp only [nmc, Bool.or_eq_false_iff]; first | (left; omega) | (right; exact ⟨h5n, h6n⟩)); simp only [nameM, hr]; first | (rw [if_pos (by omega)]; done) | (rw [if_neg (by omega)]; simp_all [to_nat_add]; done)) | (have hr := hI.over (by omega); simp only [nameM, hr]; first | (rw [if_pos (by omega)]; done) | (rw [if_neg (by omega)]; simp_all [to_nat_add]; done))
      · have h10n := h10; try simp only [dtt, dff, bqi, bqf, bni, bnf, nt1, nf1, nt0, nf0, ne_eq, ilt, ile, Int.toNat_natCast] at h10n
        refine AW.skip ?_
        refine thenN ?_
        refine AW.seq ?_
        refine AW.region ?_
        first | refine AL.go (OpR.plain rfl (r_load ti_71 rfl rfl (by simp only [loaded, mpc, mpn, if_true, ler, tks, tkz, tkn, dps, dpz, cap, nap, apn, lnc, lnn, zad, Nat.reduceAdd, adz]; rfl) (nb rfl))) ?_ | refine AL.go (OpR.plain rfl (r_loadp ti_71 rfl (by simp only [loaded, mpc, mpn, if_true, ler, tks, tkz, tkn, dps, dpz, cap, nap, apn, lnc, lnn, zad, Nat.reduceAdd, adz]; rfl) (nb rfl))) ?_
        refine AL.go (OpR.plain rfl (r_move rfl (nb rfl) (by rintro _ ⟨⟩))) ?_
        refine AL.go (OpR.plain rfl (r_storeN ti_71 rfl rfl rfl rfl rfl (nb rfl) (by simp only [putAt, tks, tkz, tkn, dps, dpz, cap, nap, apn, lnc, lnn, zad, Nat.reduceAdd, adz]; rfl) (by rintro _ ⟨⟩))) ?_
        refine AL.go (OpR.plain rfl (r_assign rfl (nb rfl) (by rintro _ ⟨⟩))) ?_
        refine AL.go (OpR.plain rfl (r_assign rfl (nb rfl) (by rintro _ ⟨⟩; rfl))) ?_
        refine AL.nil ?_
        refine thenN ?_
        refine AW.ret ?_
        refine fin_id (.inr rfl) (ends_of rfl (.cell ti_71 rfl rfl (by simp only [loaded, if_true, ler, tks, tkz, tkn, dps, dpz, cap, nap, apn, lnc, lnn, zad, Nat.reduceAdd, adz]; rfl) (.tmp rfl (.tmp rfl .nil)))) ?_ .nil rfl rfl rfl rfl
        simp only [retA]
        refine A.le_of_eq ?_
        first | (have hr := hI.stop (by omega) (by simp only [nmc, Bool.or_eq_false_iff]; first | (left; omega) | (right; exact ⟨h5n, h6n⟩)); simp only [nameM, hr]; first | (rw [if_pos (by omega)]; done) | (rw [if_neg (by omega)]; simp_all [to_nat_add]; done)) | (have hr := hI.over (by omega); simp only [nameM, hr]; first | (rw [if_pos (by omega)]; done) | (rw [if_neg (by omega)]; simp_all [to_nat_add]; done))

end Go.Par
