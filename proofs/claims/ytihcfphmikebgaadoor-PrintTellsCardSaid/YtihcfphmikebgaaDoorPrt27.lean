import Derived.Test.YtihcfphmikebgaaDoorPrt26
namespace Go.Par
open Go Go.Am Go.Proofs Go.RowKit
set_option linter.unusedVariables false
set_option linter.unusedSimpArgs false

/-! How much is asked -/
mutual
def Ex.cnt : Ex → Int → Int
  | .mk _ tab name _ _ v l, b => if (200 : Int) < tab.size + name.size + v.s.size then b else Ex.cnts l b 1
def Ex.cnts : List Ex → Int → Int → Int
  | [], _, n => n
  | e :: l, b, n => if n < b then Ex.cnts l b (n + e.cnt (b - n)) else n
end
theorem Ex.cnt_eq (e : Ex) (b : Int) : e.cnt b = if (200 : Int) < e.tab.size + e.name.size + e.val.s.size then b else Ex.cnts e.l b 1 := by cases e; rfl
mutual
theorem cnt_le : ∀ (e : Ex) (b : Int), 1 ≤ b → 1 ≤ e.cnt b ∧ e.cnt b ≤ b
  | .mk _ tab name _ _ v l, b, h => by
    rw [Ex.cnt]
    split
    · omega
    · exact cnts_le l b 1 h (by omega)
theorem cnts_le : ∀ (l : List Ex) (b n : Int), n ≤ b → 1 ≤ n → n ≤ Ex.cnts l b n ∧ Ex.cnts l b n ≤ b
  | [], b, n, h, h1 => by rw [Ex.cnts]; omega
  | e :: l, b, n, h, h1 => by
    rw [Ex.cnts]
    split
    · have h2 := cnt_le e (b - n) (by omega)
      have h3 := cnts_le l b (n + e.cnt (b - n)) (by omega) (by omega)
      omega
    · omega
end
/-- A node as it may come: texts and lists that a machine can hold, a number that is one. -/
structure WfN (e : Ex) : Prop where
  tab : e.tab.size ≤ 1000000000000000
  name : e.name.size ≤ 1000000000000000
  s : e.val.s.size ≤ 1000000000000000
  lo : -9223372036854775808 ≤ e.val.i
  hi : e.val.i ≤ 9223372036854775807
  len : e.l.length ≤ 1000000000000000
inductive WfT : Ex → Prop where
  | mk {e : Ex} (h : WfN e) (hs : ∀ x ∈ e.l, WfT x) : WfT e
theorem dec_len : ∀ (k u : Nat), u < 10 ^ (k + 1) → (Lib.decDigits u).length ≤ k + 1
  | 0, u, h => by rw [Lib.decDigits, dif_pos (by simpa using h)]; exact ler _
  | k + 1, u, h => by
    rw [Lib.decDigits]
    split
    · simp
    · have h2 : u / 10 < 10 ^ (k + 1) := by
        apply Nat.div_lt_of_lt_mul
        rw [Nat.mul_comm]; simpa [Nat.pow_succ] using h
      have := dec_len k (u / 10) h2
      rw [List.length_append, List.length_singleton]; omega
theorem itoaM_size {n : Int} (h0 : -9223372036854775808 ≤ n) (h1 : n ≤ 9223372036854775807) : (itoaM n).size ≤ 21 := by
  show (List.toArray _).size ≤ 21
  rw [List.size_toArray]
  unfold Lib.itoa
  have h := dec_len 19 n.natAbs (by omega)
  have h2 := dec_len 19 n.toNat (by omega)
  split
  · rw [lnc]; omega
  · omega
theorem valM_size {v : Val} (h0 : -9223372036854775808 ≤ v.i) (h1 : v.i ≤ 9223372036854775807) (hs : v.s.size ≤ 200) : (valM v).size ≤ 402 := by
  unfold valM
  refine ite_size (by decide) (ite_size (Nat.le_trans (itoaM_size h0 h1) (by decide)) (ite_size (Nat.le_trans (quoteM_size _) (by omega)) (by decide)))
theorem sz11 (a b c d e f g h i j k : UInt8) : (⟨#[a, b, c, d, e, f, g, h, i, j, k]⟩ : ByteArray).size = 11 := rfl
theorem prOp_size {op : Int} {tab name : ByteArray} {v : Val} {x y : Ex} {sx sy : ByteArray} (h0 : -9223372036854775808 ≤ v.i) (h1 : v.i ≤ 9223372036854775807) (hs : tab.size + name.size + v.s.size ≤ 200) :
    (prOp op tab name v x y sx sy).size ≤ sx.size + sy.size + 430 := by
  have hv := valM_size h0 h1 (by omega)
  have ho := opM_size op
  have p3 := parM_size 3 x sx
  have p5 := parM_size 5 x sx
  have pa := parM_size (asksM op 0) x sx
  have pb := parM_size (asksM op 1) y sy
  unfold prOp
  refine ite_size ?_ (ite_size ?_ (ite_size ?_ (ite_size (ite_size ?_ ?_) (ite_size ?_ (ite_size ?_ (ite_size ?_ (ite_size ?_ ?_)))))))
  all_goals (try simp only [ByteArray.size_append, sz1, sz4, sz8, sz12])
  all_goals omega
mutual
theorem cnt_small : ∀ (e : Ex) (b : Int), 1 ≤ b → b ≤ 1000 → e.cnt b < b → WfT e → ∃ n : Nat, e.cnt b = n ∧ PrTree e ∧ e.pr.size ≤ 440 * n
  | .mk op tab name t c v l, b, hb, hb2, hc, .mk h hs => by
    rw [Ex.cnt] at hc ⊢
    by_cases ht : (200 : Int) < tab.size + name.size + v.s.size
    · rw [if_pos ht] at hc; omega
    · rw [if_neg ht] at hc ⊢
      obtain ⟨N, e1, e2, e3, e4⟩ := cnts_small l b 1 (by omega) hb2 hc hs
      have e5 : ∀ i, (Ex.mk op tab name t c v l).part i = l.getD i Ex.zero := fun i => rfl
      refine ⟨N + 1, by rw [e1]; omega, .mk ⟨?_, ?_, h.lo, h.hi, ?_, ?_, ?_, ?_⟩ e2, ?_⟩
      · show tab.size ≤ _; omega
      · show name.size ≤ _; omega
      · show v.s.size ≤ _; omega
      · rw [e5]; omega
      · rw [e5]; omega
      · show l.length ≤ _
        have := cnts_le l b 1 (by omega) (by omega)
        omega
      · rw [Ex.pr_eq, e5, e5]
        have := prOp_size (op := op) (tab := tab) (name := name) (v := v) (x := l.getD 0 Ex.zero) (y := l.getD 1 Ex.zero) (sx := (l.getD 0 Ex.zero).pr) (sy := (l.getD 1 Ex.zero).pr) h.lo h.hi (by omega)
        refine Nat.le_trans this ?_
        omega
theorem cnts_small : ∀ (l : List Ex) (b n : Int), 1 ≤ n → b ≤ 1000 → Ex.cnts l b n < b → (∀ x ∈ l, WfT x) →
    ∃ N : Nat, Ex.cnts l b n = n + N ∧ (∀ x ∈ l, PrTree x) ∧ (l.getD 0 Ex.zero).pr.size + (l.getD 1 Ex.zero).pr.size ≤ 440 * N + 2 ∧ l.length ≤ N
  | [], b, n, h1, hb2, hc, hw => by
    rw [Ex.cnts] at hc ⊢
    exact ⟨0, by omega, by simp, by decide, by simp⟩
  | e :: l, b, n, h1, hb2, hc, hw => by
    rw [Ex.cnts] at hc ⊢
    by_cases hn : n < b
    · rw [if_pos hn] at hc ⊢
      have k1 := cnt_le e (b - n) (by omega)
      have k2 := cnts_le l b (n + e.cnt (b - n)) (by omega) (by omega)
      obtain ⟨m, m1, m2, m3⟩ := cnt_small e (b - n) (by omega) (by omega) (by omega) (hw e (by simp))
      obtain ⟨N, e1, e2, e3, e4⟩ := cnts_small l b (n + e.cnt (b - n)) (by omega) hb2 hc (fun x hx => hw x (by simp [hx]))
      refine ⟨m + N, by rw [e1, m1]; omega, fun x hx => ?_, ?_, ?_⟩
      · rcases List.mem_cons.1 hx with rfl | hx
        · exact m2
        · exact e2 x hx
      · show e.pr.size + (l.getD 0 Ex.zero).pr.size ≤ _
        omega
      · rw [lnc]; omega
    · rw [if_neg hn] at hc; omega
end
def much (e : Ex) : Bool := decide (200 < e.cnt 400)
theorem pr_of_much {e : Ex} (h : much e = false) (hw : WfT e) : PrTree e ∧ e.pr.size ≤ 1000000000 := by
  have h1 : e.cnt 400 ≤ 200 := by simpa [much] using h
  obtain ⟨n, e1, e2, e3⟩ := cnt_small e 400 (by decide) (by decide) (by omega) hw
  exact ⟨e2, by omega⟩
def muchF (f : Fr) : Bool := much f.on || decide (200 < (f.table.size : Int) + f.as_.size)
def muchQ (q : Qy) : Bool := decide (20 < q.items.length) || decide (12 < q.frm.length) || decide (12 < q.group.length) || much q.whr || q.items.any much || q.group.any much || q.frm.any muchF
structure WfQ (q : Qy) : Prop where
  items : ∀ x ∈ q.items, WfT x
  group : ∀ x ∈ q.group, WfT x
  whr : WfT q.whr
  frm : ∀ f ∈ q.frm, WfT f.on ∧ f.table.size ≤ 1000000000000000 ∧ f.as_.size ≤ 1000000000000000
  il : q.items.length ≤ 1000000000000000
  gl : q.group.length ≤ 1000000000000000
  fl : q.frm.length ≤ 1000000000000000
theorem qok_of_much {q : Qy} (h : muchQ q = false) (hw : WfQ q) : QOk q := by
  simp only [muchQ, Bool.or_eq_false_iff, dff, List.any_eq_false, muchF] at h
  obtain ⟨⟨⟨⟨⟨⟨h1, h2⟩, h3⟩, h4⟩, h5⟩, h6⟩, h7⟩ := h
  have f : ∀ {x : Ex}, ¬ much x = true → much x = false := fun h => by simpa using h
  refine ⟨fun x hx => (pr_of_much (f (h5 x hx)) (hw.items x hx)).1, fun x hx => (pr_of_much (f (h5 x hx)) (hw.items x hx)).2, by omega, fun x hx => (pr_of_much (f (h6 x hx)) (hw.group x hx)).1, fun x hx => (pr_of_much (f (h6 x hx)) (hw.group x hx)).2, by omega, fun x hx => ?_, by omega, (pr_of_much h4 hw.whr).1, (pr_of_much h4 hw.whr).2⟩
  have h8 := h7 x hx
  simp only [Bool.or_eq_true, not_or, dtt] at h8
  have h9 := pr_of_much (f h8.1) (hw.frm x hx).1
  exact ⟨h9.1, h9.2, by omega, by omega⟩

end Go.Par
