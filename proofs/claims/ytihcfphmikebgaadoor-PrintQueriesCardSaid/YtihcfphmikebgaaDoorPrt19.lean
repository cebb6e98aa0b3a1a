import Derived.Test.YtihcfphmikebgaaDoorPrt18
import Derived.Test.YtihcfphmikebgaaDoorAm20
import Derived.Lib.ItoaNum
namespace Go.Par
open Go Go.Am Go.Proofs Go.RowKit
set_option linter.unusedVariables false
set_option linter.unusedSimpArgs false

/-! What is printed -/
def levelM (op : Int) : Int := if op = 11 then 1 else if op = 10 then 2 else if op = 12 then 3 else if 1 ≤ op ∧ op ≤ 6 ∨ op = 13 ∨ op = 14 then 4 else if op = 7 ∨ op = 8 then 5 else if op = 9 then 6 else 7
def opM (op : Int) : ByteArray := if op = 1 then ⟨#[61]⟩ else if op = 2 then ⟨#[60, 62]⟩ else if op = 3 then ⟨#[60]⟩ else if op = 4 then ⟨#[60, 61]⟩ else if op = 5 then ⟨#[62]⟩ else if op = 6 then ⟨#[62, 61]⟩
  else if op = 7 then ⟨#[43]⟩ else if op = 8 then ⟨#[45]⟩ else if op = 9 then ⟨#[42]⟩ else if op = 10 then ⟨#[97, 110, 100]⟩ else if op = 11 then ⟨#[111, 114]⟩ else if op = 12 then ⟨#[110, 111, 116]⟩
  else if op = 18 then ⟨#[99, 111, 117, 110, 116]⟩ else if op = 19 then ⟨#[115, 117, 109]⟩ else if op = 20 then ⟨#[109, 105, 110]⟩ else if op = 21 then ⟨#[109, 97, 120]⟩ else ⟨#[]⟩
theorem ite_size {c : Prop} [Decidable c] {a b : ByteArray} {n : Nat} (ha : a.size ≤ n) (hb : b.size ≤ n) : (if c then a else b).size ≤ n := by
  by_cases h : c
  · rw [if_pos h]; exact ha
  · rw [if_neg h]; exact hb
theorem opM_size (op : Int) : (opM op).size ≤ 5 := by
  unfold opM
  repeat (refine ite_size (by decide) ?_)
  decide
def asksM (op i : Int) : Int := if op = 11 then 1 + i else if op = 10 then 2 + i else if op = 12 then 3 else if op = 7 ∨ op = 8 then 5 + i else if op = 9 then 6 + i else 5
def itoaM (n : Int) : ByteArray := ⟨(Lib.itoa n).toArray⟩
def quoteL (l : List UInt8) : List UInt8 := l.flatMap fun c => if c = 39 then [39, 39] else [c]
def quoteM (s : ByteArray) : ByteArray := ⟨(39 :: (quoteL s.data.toList ++ [39])).toArray⟩
def valM (v : Val) : ByteArray := if v.kind = 0 then ⟨#[110, 117, 108, 108]⟩ else if v.kind = 1 then itoaM v.i else if v.kind = 2 then quoteM v.s else ⟨#[63]⟩
abbrev Ex.zero : Ex := .mk 0 bs0 bs0 0 0 Val.null []
def Ex.part (e : Ex) (i : Nat) : Ex := e.l.getD i Ex.zero
def parM (lvl : Int) (x : Ex) (s : ByteArray) : ByteArray := if levelM x.op < lvl then ⟨#[40]⟩ ++ s ++ ⟨#[41]⟩ else s
def prOp (op : Int) (tab name : ByteArray) (v : Val) (x y : Ex) (sx sy : ByteArray) : ByteArray :=
  if op = 12 then ⟨#[110, 111, 116, 32]⟩ ++ parM 3 x sx
  else if op = 13 then parM 5 x sx ++ ⟨#[32, 105, 115, 32, 110, 117, 108, 108]⟩
  else if op = 14 then parM 5 x sx ++ ⟨#[32, 105, 115, 32, 110, 111, 116, 32, 110, 117, 108, 108]⟩
  else if op = 15 then (if tab = ⟨#[]⟩ then name else tab ++ ⟨#[46]⟩ ++ name)
  else if op = 16 then valM v
  else if op = 17 then ⟨#[99, 111, 117, 110, 116, 40, 42, 41]⟩
  else if 18 ≤ op ∧ op ≤ 21 then opM op ++ ⟨#[40]⟩ ++ sx ++ ⟨#[41]⟩
  else if 1 ≤ op ∧ op ≤ 11 then parM (asksM op 0) x sx ++ ⟨#[32]⟩ ++ opM op ++ ⟨#[32]⟩ ++ parM (asksM op 1) y sy
  else ⟨#[63]⟩
mutual
def Ex.pr : Ex → ByteArray
  | .mk op tab name _ _ v l => prOp op tab name v (l.getD 0 Ex.zero) (l.getD 1 Ex.zero) ((Ex.prs l).getD 0 ⟨#[63]⟩) ((Ex.prs l).getD 1 ⟨#[63]⟩)
def Ex.prs : List Ex → List ByteArray
  | [] => []
  | e :: l => e.pr :: Ex.prs l
end
theorem Ex.prs_eq : ∀ l : List Ex, Ex.prs l = l.map Ex.pr
  | [] => rfl
  | e :: l => by rw [Ex.prs, mpc, Ex.prs_eq l]
theorem Ex.pr_zero : Ex.zero.pr = ⟨#[63]⟩ := rfl
theorem Ex.pr_eq (e : Ex) : e.pr = prOp e.op e.tab e.name e.val (e.part 0) (e.part 1) (e.part 0).pr (e.part 1).pr := by
  cases e with
  | mk op tab name t c v l =>
    rw [Ex.pr, Ex.prs_eq]
    have h : ∀ i, (l.map Ex.pr).getD i ⟨#[63]⟩ = (l.getD i Ex.zero).pr := fun i => by
      simp only [List.getD_eq_getElem?_getD, List.getElem?_map]
      cases l[i]? <;> rfl
    rw [h, h]; rfl
theorem parM_size (lvl : Int) (x : Ex) (s : ByteArray) : (parM lvl x s).size ≤ s.size + 2 := by
  unfold parM
  split
  · simp only [ByteArray.size_append]
    show 1 + s.size + 1 ≤ _
    omega
  · omega
/-- Which operators print their parts. -/
def recs (op : Int) : Bool := decide (1 ≤ op ∧ op ≤ 14) || decide (18 ≤ op ∧ op ≤ 21)
/-- Whatever is printed is short enough, and each number is one. -/
structure PrOk (e : Ex) : Prop where
  tab : e.tab.size ≤ 1000000000
  name : e.name.size ≤ 1000000000
  lo : -9223372036854775808 ≤ e.val.i
  hi : e.val.i ≤ 9223372036854775807
  s : e.val.s.size ≤ 1000000000
  x : (e.part 0).pr.size ≤ 1000000000
  y : (e.part 1).pr.size ≤ 1000000000
  len : e.l.length ≤ 1000000
theorem getD_row {l : List Ex} {j : Nat} (h : j < l.length) : (Ex.rows l)[j]? = some (l.getD j Ex.zero).row := by
  induction l generalizing j with
  | nil => simp at h
  | cons e l ih =>
    cases j with
    | zero => simp [Ex.rows]
    | succ j => simp only [lnc] at h; simpa [Ex.rows] using ih (j := j) (by omega)
theorem part_row {e : Ex} {j : Int} (h0 : 0 ≤ j) (h : j < e.l.length) : (Ex.rows e.l)[j.toNat]? = some [.v (.int .i64 (e.part j.toNat).op), .v (.string (e.part j.toNat).tab), .v (.string (e.part j.toNat).name), .v (.int .i64 (e.part j.toNat).t), .v (.int .i64 (e.part j.toNat).c), .v (.int .i64 (e.part j.toNat).val.kind), .v (.int .i64 (e.part j.toNat).val.i), .v (.string (e.part j.toNat).val.s), .sl false (Ex.rows (e.part j.toNat).l)] := by
  rw [← Ex.row_eq]; exact getD_row (by omega)
theorem part_over {e : Ex} {j : Nat} (h : e.l.length ≤ j) : e.part j = Ex.zero := by unfold Ex.part; simp [List.getD_eq_getElem?_getD, h]
theorem level_at {op : Int} (h0 : 0 ≤ op) (h1 : op ≤ 14) : ([[.v (.int .i64 7)], [.v (.int .i64 4)], [.v (.int .i64 4)], [.v (.int .i64 4)], [.v (.int .i64 4)], [.v (.int .i64 4)], [.v (.int .i64 4)], [.v (.int .i64 5)], [.v (.int .i64 5)], [.v (.int .i64 6)], [.v (.int .i64 2)], [.v (.int .i64 1)], [.v (.int .i64 3)], [.v (.int .i64 4)], [.v (.int .i64 4)]] : List (List D))[op.toNat]? = some [.v (.int .i64 (levelM op))] := by
  obtain ⟨n, rfl⟩ : ∃ n : Nat, op = n := ⟨op.toNat, by omega⟩
  have : n ≤ 14 := by omega
  match n, this with
  | 0, _ | 1, _ | 2, _ | 3, _ | 4, _ | 5, _ | 6, _ | 7, _ | 8, _ | 9, _ | 10, _ | 11, _ | 12, _ | 13, _ | 14, _ => rfl
abbrev opsL : List ByteArray := [⟨#[61]⟩, ⟨#[60, 62]⟩, ⟨#[60]⟩, ⟨#[60, 61]⟩, ⟨#[62]⟩, ⟨#[62, 61]⟩, ⟨#[43]⟩, ⟨#[45]⟩, ⟨#[42]⟩, ⟨#[97, 110, 100]⟩, ⟨#[111, 114]⟩, ⟨#[110, 111, 116]⟩]
abbrev aggL : List ByteArray := [⟨#[99, 111, 117, 110, 116]⟩, ⟨#[115, 117, 109]⟩, ⟨#[109, 105, 110]⟩, ⟨#[109, 97, 120]⟩]
theorem op_at1 {op : Int} (h0 : 1 ≤ op) (h1 : op ≤ 12) : (opsL.map fun s => [D.v (.string s)])[(op - 1).toNat]? = some [.v (.string (opM op))] := by
  obtain ⟨n, rfl⟩ : ∃ n : Nat, op = n := ⟨op.toNat, by omega⟩
  have h1 : 1 ≤ n := by omega
  have : n ≤ 12 := by omega
  match n, h1, this with
  | 1, _, _ | 2, _, _ | 3, _, _ | 4, _, _ | 5, _, _ | 6, _, _ | 7, _, _ | 8, _, _ | 9, _, _ | 10, _, _ | 11, _, _ | 12, _, _ => rfl
theorem op_at2 {op : Int} (h0 : 18 ≤ op) (h1 : op ≤ 21) : (aggL.map fun s => [D.v (.string s)])[(op - 18).toNat]? = some [.v (.string (opM op))] := by
  obtain ⟨n, rfl⟩ : ∃ n : Nat, op = n := ⟨op.toNat, by omega⟩
  have h1 : 18 ≤ n := by omega
  have : n ≤ 21 := by omega
  match n, h1, this with
  | 18, _, _ | 19, _, _ | 20, _, _ | 21, _, _ => rfl
/-- The cells of the program's own list of signs. -/
abbrev opCells : List C := [.d (.v (.string ⟨#[]⟩))] ++ (opsL.map fun s => C.d (.v (.string s))) ++ [.d (.v (.string ⟨#[]⟩)), .d (.v (.string ⟨#[]⟩)), .d (.v (.string ⟨#[]⟩)), .d (.v (.string ⟨#[]⟩)), .d (.v (.string ⟨#[]⟩))] ++ (aggL.map fun s => C.d (.v (.string s)))
theorem opCells_at {op : Int} (h0 : 0 ≤ op) (h1 : op < 22) : loaded false 1 (opCells.drop (0 + op.toNat * 1)) = some (A.val (.string (opM op))) := by
  obtain ⟨n, rfl⟩ : ∃ n : Nat, op = n := ⟨op.toNat, by omega⟩
  have : n ≤ 21 := by omega
  match n, this with
  | 0, _ | 1, _ | 2, _ | 3, _ | 4, _ | 5, _ | 6, _ | 7, _ | 8, _ | 9, _ | 10, _ | 11, _ | 12, _ | 13, _ | 14, _ | 15, _ | 16, _ | 17, _ | 18, _ | 19, _ | 20, _ | 21, _ => rfl
theorem opM_none {op : Int} (h : op < 0 ∨ 22 ≤ op) : opM op = ⟨#[]⟩ := by
  unfold opM
  repeat (rw [if_neg (by omega)])
theorem opM_none2 {op : Int} (h : ¬ (1 ≤ op ∧ op ≤ 12)) (h' : ¬ (18 ≤ op ∧ op ≤ 21)) : opM op = ⟨#[]⟩ := by
  unfold opM
  repeat (rw [if_neg (by omega)])

theorem ar_61 : arrOf Tryd.prog 61 = some (1, 22, Value.agg (List.toArray [Value.string { data := #[] }, Value.string { data := #[] }, Value.string { data := #[] }, Value.string { data := #[] }, Value.string { data := #[] }, Value.string { data := #[] }, Value.string { data := #[] }, Value.string { data := #[] }, Value.string { data := #[] }, Value.string { data := #[] }, Value.string { data := #[] }, Value.string { data := #[] }, Value.string { data := #[] }, Value.string { data := #[] }, Value.string { data := #[] }, Value.string { data := #[] }, Value.string { data := #[] }, Value.string { data := #[] }, Value.string { data := #[] }, Value.string { data := #[] }, Value.string { data := #[] }, Value.string { data := #[] }])) := by kernel_rfl
theorem fo_27_0 : fieldOf Tryd.prog 27 0 = some (0, 1, false) := by kernel_rfl
theorem fo_27_6 : fieldOf Tryd.prog 27 6 = some (8, 1, false) := by kernel_rfl
theorem ti_25 : tinf Tryd.prog 25 = some (1, 24, false, some (Value.slice none 0 0)) := by kernel_rfl
theorem ti_61 : tinf Tryd.prog 61 = some (22, 352, true, some (Value.agg (List.toArray [Value.string { data := #[] }, Value.string { data := #[] }, Value.string { data := #[] }, Value.string { data := #[] }, Value.string { data := #[] }, Value.string { data := #[] }, Value.string { data := #[] }, Value.string { data := #[] }, Value.string { data := #[] }, Value.string { data := #[] }, Value.string { data := #[] }, Value.string { data := #[] }, Value.string { data := #[] }, Value.string { data := #[] }, Value.string { data := #[] }, Value.string { data := #[] }, Value.string { data := #[] }, Value.string { data := #[] }, Value.string { data := #[] }, Value.string { data := #[] }, Value.string { data := #[] }, Value.string { data := #[] }]))) := by kernel_rfl
theorem un_87 : Tryd.prog.underlying 87 = some (TypeDesc.slice 3) := by kernel_rfl
theorem zc_61 : plainCells (Value.agg (List.toArray [Value.string { data := #[] }, Value.string { data := #[] }, Value.string { data := #[] }, Value.string { data := #[] }, Value.string { data := #[] }, Value.string { data := #[] }, Value.string { data := #[] }, Value.string { data := #[] }, Value.string { data := #[] }, Value.string { data := #[] }, Value.string { data := #[] }, Value.string { data := #[] }, Value.string { data := #[] }, Value.string { data := #[] }, Value.string { data := #[] }, Value.string { data := #[] }, Value.string { data := #[] }, Value.string { data := #[] }, Value.string { data := #[] }, Value.string { data := #[] }, Value.string { data := #[] }, Value.string { data := #[] }])) = [.d (.v (Value.string { data := #[] })), .d (.v (Value.string { data := #[] })), .d (.v (Value.string { data := #[] })), .d (.v (Value.string { data := #[] })), .d (.v (Value.string { data := #[] })), .d (.v (Value.string { data := #[] })), .d (.v (Value.string { data := #[] })), .d (.v (Value.string { data := #[] })), .d (.v (Value.string { data := #[] })), .d (.v (Value.string { data := #[] })), .d (.v (Value.string { data := #[] })), .d (.v (Value.string { data := #[] })), .d (.v (Value.string { data := #[] })), .d (.v (Value.string { data := #[] })), .d (.v (Value.string { data := #[] })), .d (.v (Value.string { data := #[] })), .d (.v (Value.string { data := #[] })), .d (.v (Value.string { data := #[] })), .d (.v (Value.string { data := #[] })), .d (.v (Value.string { data := #[] })), .d (.v (Value.string { data := #[] })), .d (.v (Value.string { data := #[] }))] := rfl

theorem level_s (e : Ex) : Am.Spec Tryd.prog 50 [exA e] [] (A.i64 (levelM e.op)) [] := by
  refine spec_ofN (n := 25) Tryd.func50 rfl rfl (nb rfl) ?_
  show AW _ _ (⟨[(0, exA e)], [], []⟩ : St) _
  refine AW.seq ?_
  refine AW.region ?_
  refine AL.go (OpR.plain rfl (r_box 101 rfl rfl rfl (nb rfl) (by rintro _ ⟨⟩))) ?_
  refine AL.go (OpR.plain rfl (r_assign rfl (nb rfl) (by rintro _ ⟨⟩; rfl))) ?_
  refine AL.nil ?_
  refine thenN ?_
  refine AW.seq ?_
  refine AW.seq ?_
  refine AW.region ?_
  first | refine AL.go (OpR.plain rfl (r_fieldAddr fo_27_0 (by decide) rfl (nb rfl))) ?_ | refine AL.go (OpR.plain rfl (r_fieldAddrp fo_27_0 (by decide) rfl (nb rfl))) ?_
  first | refine AL.go (OpR.plain rfl (r_load ti_3 rfl rfl rfl (nb rfl))) ?_ | refine AL.go (OpR.plain rfl (r_loadp ti_3 rfl rfl (nb rfl))) ?_
  refine AL.nil ?_
  refine thenN ?_
  refine AW.block ?_
  refine AW.seq ?_
  refine AW.region ?_
  refine AL.go (OpR.plain rfl (r_bin rfl rfl (nb rfl) rfl (run_int_eql _ _ _))) ?_
  refine AL.go (OpR.plain rfl (r_assign rfl (nb rfl) (by rintro _ ⟨⟩))) ?_
  refine AL.nil ?_
  refine thenN ?_
  refine AW.condb rfl (fun h1 => ?_) (fun h1 => ?_)
  · have h1n := h1; try simp only [dtt, dff, bqi, bqf, bni, bnf, nt1, nf1, nt0, nf0, ne_eq, ilt, ile] at h1n
    refine AW.seq ?_
    refine AW.region ?_
    refine AL.go (OpR.plain rfl (r_assign rfl (nb rfl) (by rintro _ ⟨⟩; rfl))) ?_
    refine AL.nil ?_
    refine thenN ?_
    refine AW.ret ?_
    refine inbR ?_
    refine thenR ?_
    refine fin_id (.inr rfl) (ends_of rfl (.tmp rfl .nil)) ?_ .nil rfl rfl rfl rfl
    simp only [retA]
    refine A.le_of_eq ?_
    unfold levelM
    first | rfl | (simp_all; done) | (repeat (first | rw [if_pos (by omega)] | rw [if_neg (by omega)]))
  · have h1n := h1; try simp only [dtt, dff, bqi, bqf, bni, bnf, nt1, nf1, nt0, nf0, ne_eq, ilt, ile] at h1n
    refine AW.seq ?_
    refine AW.region ?_
    refine AL.go (OpR.plain rfl (r_bin rfl rfl (nb rfl) rfl (run_int_eql _ _ _))) ?_
    refine AL.go (OpR.plain rfl (r_assign rfl (nb rfl) (by rintro _ ⟨⟩))) ?_
    refine AL.nil ?_
    refine thenN ?_
    refine AW.condb rfl (fun h2 => ?_) (fun h2 => ?_)
    · have h2n := h2; try simp only [dtt, dff, bqi, bqf, bni, bnf, nt1, nf1, nt0, nf0, ne_eq, ilt, ile] at h2n
      refine AW.seq ?_
      refine AW.region ?_
      refine AL.go (OpR.plain rfl (r_assign rfl (nb rfl) (by rintro _ ⟨⟩; rfl))) ?_
      refine AL.nil ?_
      refine thenN ?_
      refine AW.ret ?_
      refine inbR ?_
      refine thenR ?_
      refine fin_id (.inr rfl) (ends_of rfl (.tmp rfl .nil)) ?_ .nil rfl rfl rfl rfl
      simp only [retA]
      refine A.le_of_eq ?_
      unfold levelM
      first | rfl | (simp_all; done) | (repeat (first | rw [if_pos (by omega)] | rw [if_neg (by omega)]))
    · have h2n := h2; try simp only [dtt, dff, bqi, bqf, bni, bnf, nt1, nf1, nt0, nf0, ne_eq, ilt, ile] at h2n
      refine AW.seq ?_
      refine AW.region ?_
      refine AL.go (OpR.plain rfl (r_bin rfl rfl (nb rfl) rfl (run_int_eql _ _ _))) ?_
      refine AL.go (OpR.plain rfl (r_assign rfl (nb rfl) (by rintro _ ⟨⟩))) ?_
      refine AL.nil ?_
      refine thenN ?_
      refine AW.condb rfl (fun h3 => ?_) (fun h3 => ?_)
      · have h3n := h3; try simp only [dtt, dff, bqi, bqf, bni, bnf, nt1, nf1, nt0, nf0, ne_eq, ilt, ile] at h3n
        refine AW.seq ?_
        refine AW.region ?_
        refine AL.go (OpR.plain rfl (r_assign rfl (nb rfl) (by rintro _ ⟨⟩; rfl))) ?_
        refine AL.nil ?_
        refine thenN ?_
        refine AW.ret ?_
        refine inbR ?_
        refine thenR ?_
        refine fin_id (.inr rfl) (ends_of rfl (.tmp rfl .nil)) ?_ .nil rfl rfl rfl rfl
        simp only [retA]
        refine A.le_of_eq ?_
        unfold levelM
        first | rfl | (simp_all; done) | (repeat (first | rw [if_pos (by omega)] | rw [if_neg (by omega)]))
      · have h3n := h3; try simp only [dtt, dff, bqi, bqf, bni, bnf, nt1, nf1, nt0, nf0, ne_eq, ilt, ile] at h3n
        refine AW.seq ?_
        refine AW.seq ?_
        refine AW.region ?_
        refine AL.go (OpR.plain rfl (r_bin rfl rfl (nb rfl) rfl (run_int_eql _ _ _))) ?_
        refine AL.go (OpR.plain rfl (r_assign rfl (nb rfl) (by rintro _ ⟨⟩))) ?_
        refine AL.nil ?_
        refine thenN ?_
        refine AW.condb rfl (fun h4 => ?_) (fun h4 => ?_)
        · have h4n := h4; try simp only [dtt, dff, bqi, bqf, bni, bnf, nt1, nf1, nt0, nf0, ne_eq, ilt, ile] at h4n
          refine AW.skip ?_
          refine thenN ?_
          refine AW.condT rfl (h4) ?_
          refine AW.seq ?_
          refine AW.region ?_
          refine AL.go (OpR.plain rfl (r_assign rfl (nb rfl) (by rintro _ ⟨⟩; rfl))) ?_
          refine AL.nil ?_
          refine thenN ?_
          refine AW.ret ?_
          refine inbR ?_
          refine thenR ?_
          refine fin_id (.inr rfl) (ends_of rfl (.tmp rfl .nil)) ?_ .nil rfl rfl rfl rfl
          simp only [retA]
          refine A.le_of_eq ?_
          unfold levelM
          first | rfl | (simp_all; done) | (repeat (first | rw [if_pos (by omega)] | rw [if_neg (by omega)]))
        · have h4n := h4; try simp only [dtt, dff, bqi, bqf, bni, bnf, nt1, nf1, nt0, nf0, ne_eq, ilt, ile] at h4n
          refine AW.seq ?_
          refine AW.region ?_
          refine AL.go (OpR.plain rfl (r_bin rfl rfl (nb rfl) rfl (run_int_eql _ _ _))) ?_
          refine AL.go (OpR.plain rfl (r_assign rfl (nb rfl) (by rintro _ ⟨⟩))) ?_
          refine AL.nil ?_
          refine thenN ?_
          refine AW.condb rfl (fun h5 => ?_) (fun h5 => ?_)
          · have h5n := h5; try simp only [dtt, dff, bqi, bqf, bni, bnf, nt1, nf1, nt0, nf0, ne_eq, ilt, ile] at h5n
            refine AW.skip ?_
            refine thenN ?_
            refine AW.condT rfl (h5) ?_
            refine AW.seq ?_
            refine AW.region ?_
            refine AL.go (OpR.plain rfl (r_assign rfl (nb rfl) (by rintro _ ⟨⟩; rfl))) ?_
            refine AL.nil ?_
            refine thenN ?_
            refine AW.ret ?_
            refine inbR ?_
            refine thenR ?_
            refine fin_id (.inr rfl) (ends_of rfl (.tmp rfl .nil)) ?_ .nil rfl rfl rfl rfl
            simp only [retA]
            refine A.le_of_eq ?_
            unfold levelM
            first | rfl | (simp_all; done) | (repeat (first | rw [if_pos (by omega)] | rw [if_neg (by omega)]))
          · have h5n := h5; try simp only [dtt, dff, bqi, bqf, bni, bnf, nt1, nf1, nt0, nf0, ne_eq, ilt, ile] at h5n
            refine AW.seq ?_
            refine AW.region ?_
            refine AL.go (OpR.plain rfl (r_bin rfl rfl (nb rfl) rfl (run_int_eql _ _ _))) ?_
            refine AL.go (OpR.plain rfl (r_assign rfl (nb rfl) (by rintro _ ⟨⟩))) ?_
            refine AL.nil ?_
            refine thenN ?_
            refine AW.condb rfl (fun h6 => ?_) (fun h6 => ?_)
            · have h6n := h6; try simp only [dtt, dff, bqi, bqf, bni, bnf, nt1, nf1, nt0, nf0, ne_eq, ilt, ile] at h6n
              refine AW.skip ?_
              refine thenN ?_
              refine AW.condT rfl (h6) ?_
              refine AW.seq ?_
              refine AW.region ?_
              refine AL.go (OpR.plain rfl (r_assign rfl (nb rfl) (by rintro _ ⟨⟩; rfl))) ?_
              refine AL.nil ?_
              refine thenN ?_
              refine AW.ret ?_
              refine inbR ?_
              refine thenR ?_
              refine fin_id (.inr rfl) (ends_of rfl (.tmp rfl .nil)) ?_ .nil rfl rfl rfl rfl
              simp only [retA]
              refine A.le_of_eq ?_
              unfold levelM
              first | rfl | (simp_all; done) | (repeat (first | rw [if_pos (by omega)] | rw [if_neg (by omega)]))
            · have h6n := h6; try simp only [dtt, dff, bqi, bqf, bni, bnf, nt1, nf1, nt0, nf0, ne_eq, ilt, ile] at h6n
              refine AW.seq ?_
              refine AW.region ?_
              refine AL.go (OpR.plain rfl (r_bin rfl rfl (nb rfl) rfl (run_int_eql _ _ _))) ?_
              refine AL.go (OpR.plain rfl (r_assign rfl (nb rfl) (by rintro _ ⟨⟩))) ?_
              refine AL.nil ?_
              refine thenN ?_
              refine AW.condb rfl (fun h7 => ?_) (fun h7 => ?_)
              · have h7n := h7; try simp only [dtt, dff, bqi, bqf, bni, bnf, nt1, nf1, nt0, nf0, ne_eq, ilt, ile] at h7n
                refine AW.skip ?_
                refine thenN ?_
                refine AW.condT rfl (h7) ?_
                refine AW.seq ?_
                refine AW.region ?_
                refine AL.go (OpR.plain rfl (r_assign rfl (nb rfl) (by rintro _ ⟨⟩; rfl))) ?_
                refine AL.nil ?_
                refine thenN ?_
                refine AW.ret ?_
                refine inbR ?_
                refine thenR ?_
                refine fin_id (.inr rfl) (ends_of rfl (.tmp rfl .nil)) ?_ .nil rfl rfl rfl rfl
                simp only [retA]
                refine A.le_of_eq ?_
                unfold levelM
                first | rfl | (simp_all; done) | (repeat (first | rw [if_pos (by omega)] | rw [if_neg (by omega)]))
              · have h7n := h7; try simp only [dtt, dff, bqi, bqf, bni, bnf, nt1, nf1, nt0, nf0, ne_eq, ilt, ile] at h7n
                refine AW.seq ?_
                refine AW.region ?_
                refine AL.go (OpR.plain rfl (r_bin rfl rfl (nb rfl) rfl (run_int_eql _ _ _))) ?_
                refine AL.go (OpR.plain rfl (r_assign rfl (nb rfl) (by rintro _ ⟨⟩))) ?_
                refine AL.nil ?_
                refine thenN ?_
                refine AW.condb rfl (fun h8 => ?_) (fun h8 => ?_)
                · have h8n := h8; try simp only [dtt, dff, bqi, bqf, bni, bnf, nt1, nf1, nt0, nf0, ne_eq, ilt, ile] at h8n
                  refine AW.skip ?_
                  refine thenN ?_
                  refine AW.condT rfl (h8) ?_
                  refine AW.seq ?_
                  refine AW.region ?_
                  refine AL.go (OpR.plain rfl (r_assign rfl (nb rfl) (by rintro _ ⟨⟩; rfl))) ?_
                  refine AL.nil ?_
                  refine thenN ?_
                  refine AW.ret ?_
                  refine inbR ?_
                  refine thenR ?_
                  refine fin_id (.inr rfl) (ends_of rfl (.tmp rfl .nil)) ?_ .nil rfl rfl rfl rfl
                  simp only [retA]
                  refine A.le_of_eq ?_
                  unfold levelM
                  first | rfl | (simp_all; done) | (repeat (first | rw [if_pos (by omega)] | rw [if_neg (by omega)]))
                · have h8n := h8; try simp only [dtt, dff, bqi, bqf, bni, bnf, nt1, nf1, nt0, nf0, ne_eq, ilt, ile] at h8n
                  refine AW.seq ?_
                  refine AW.region ?_
                  refine AL.go (OpR.plain rfl (r_bin rfl rfl (nb rfl) rfl (run_int_eql _ _ _))) ?_
                  refine AL.go (OpR.plain rfl (r_assign rfl (nb rfl) (by rintro _ ⟨⟩))) ?_
                  refine AL.nil ?_
                  refine thenN ?_
                  refine AW.condb rfl (fun h9 => ?_) (fun h9 => ?_)
                  · have h9n := h9; try simp only [dtt, dff, bqi, bqf, bni, bnf, nt1, nf1, nt0, nf0, ne_eq, ilt, ile] at h9n
                    refine AW.skip ?_
                    refine thenN ?_
                    refine AW.condT rfl (h9) ?_
                    refine AW.seq ?_
                    refine AW.region ?_
                    refine AL.go (OpR.plain rfl (r_assign rfl (nb rfl) (by rintro _ ⟨⟩; rfl))) ?_
                    refine AL.nil ?_
                    refine thenN ?_
                    refine AW.ret ?_
                    refine inbR ?_
                    refine thenR ?_
                    refine fin_id (.inr rfl) (ends_of rfl (.tmp rfl .nil)) ?_ .nil rfl rfl rfl rfl
                    simp only [retA]
                    refine A.le_of_eq ?_
                    unfold levelM
                    first | rfl | (simp_all; done) | (repeat (first | rw [if_pos (by omega)] | rw [if_neg (by omega)]))
                  · have h9n := h9; try simp only [dtt, dff, bqi, bqf, bni, bnf, nt1, nf1, nt0, nf0, ne_eq, ilt, ile] at h9n
                    refine AW.seq ?_
                    refine AW.region ?_
                    refine AL.go (OpR.plain rfl (r_bin rfl rfl (nb rfl) rfl (run_int_eql _ _ _))) ?_
                    refine AL.go (OpR.plain rfl (r_assign rfl (nb rfl) (by rintro _ ⟨⟩))) ?_
                    refine AL.nil ?_
                    refine thenN ?_
                    refine AW.condb rfl (fun h10 => ?_) (fun h10 => ?_)
                    · have h10n := h10; try simp only [dtt, dff, bqi, bqf, bni, bnf, nt1, nf1, nt0, nf0, ne_eq, ilt, ile] at h10n
                      refine AW.skip ?_
                      refine thenN ?_
                      refine AW.condT rfl (h10) ?_
                      refine AW.seq ?_
                      refine AW.region ?_
                      refine AL.go (OpR.plain rfl (r_assign rfl (nb rfl) (by rintro _ ⟨⟩; rfl))) ?_
                      refine AL.nil ?_
                      refine thenN ?_
                      refine AW.ret ?_
                      refine inbR ?_
                      refine thenR ?_
                      refine fin_id (.inr rfl) (ends_of rfl (.tmp rfl .nil)) ?_ .nil rfl rfl rfl rfl
                      simp only [retA]
                      refine A.le_of_eq ?_
                      unfold levelM
                      first | rfl | (simp_all; done) | (repeat (first | rw [if_pos (by omega)] | rw [if_neg (by omega)]))
                    · have h10n := h10; try simp only [dtt, dff, bqi, bqf, bni, bnf, nt1, nf1, nt0, nf0, ne_eq, ilt, ile] at h10n
                      refine AW.region ?_
                      refine AL.go (OpR.plain rfl (r_bin rfl rfl (nb rfl) rfl (run_int_eql _ _ _))) ?_
                      refine AL.go (OpR.plain rfl (r_assign rfl (nb rfl) (by rintro _ ⟨⟩))) ?_
                      refine AL.nil ?_
                      refine thenN ?_
                      refine AW.condb rfl (fun h11 => ?_) (fun h11 => ?_)
                      · have h11n := h11; try simp only [dtt, dff, bqi, bqf, bni, bnf, nt1, nf1, nt0, nf0, ne_eq, ilt, ile] at h11n
                        refine AW.seq ?_
                        refine AW.region ?_
                        refine AL.go (OpR.plain rfl (r_assign rfl (nb rfl) (by rintro _ ⟨⟩; rfl))) ?_
                        refine AL.nil ?_
                        refine thenN ?_
                        refine AW.ret ?_
                        refine inbR ?_
                        refine thenR ?_
                        refine fin_id (.inr rfl) (ends_of rfl (.tmp rfl .nil)) ?_ .nil rfl rfl rfl rfl
                        simp only [retA]
                        refine A.le_of_eq ?_
                        unfold levelM
                        first | rfl | (simp_all; done) | (repeat (first | rw [if_pos (by omega)] | rw [if_neg (by omega)]))
                      · have h11n := h11; try simp only [dtt, dff, bqi, bqf, bni, bnf, nt1, nf1, nt0, nf0, ne_eq, ilt, ile] at h11n
                        refine AW.seq ?_
                        refine AW.seq ?_
                        refine AW.region ?_
                        refine AL.go (OpR.plain rfl (r_bin rfl rfl (nb rfl) rfl (run_int_eql _ _ _))) ?_
                        refine AL.go (OpR.plain rfl (r_assign rfl (nb rfl) (by rintro _ ⟨⟩))) ?_
                        refine AL.nil ?_
                        refine thenN ?_
                        refine AW.condb rfl (fun h12 => ?_) (fun h12 => ?_)
                        · have h12n := h12; try simp only [dtt, dff, bqi, bqf, bni, bnf, nt1, nf1, nt0, nf0, ne_eq, ilt, ile] at h12n
                          refine AW.skip ?_
                          refine thenN ?_
                          refine AW.condT rfl (h12) ?_
                          refine AW.seq ?_
                          refine AW.region ?_
                          refine AL.go (OpR.plain rfl (r_assign rfl (nb rfl) (by rintro _ ⟨⟩; rfl))) ?_
                          refine AL.nil ?_
                          refine thenN ?_
                          refine AW.ret ?_
                          refine inbR ?_
                          refine thenR ?_
                          refine fin_id (.inr rfl) (ends_of rfl (.tmp rfl .nil)) ?_ .nil rfl rfl rfl rfl
                          simp only [retA]
                          refine A.le_of_eq ?_
                          unfold levelM
                          first | rfl | (simp_all; done) | (repeat (first | rw [if_pos (by omega)] | rw [if_neg (by omega)]))
                        · have h12n := h12; try simp only [dtt, dff, bqi, bqf, bni, bnf, nt1, nf1, nt0, nf0, ne_eq, ilt, ile] at h12n
                          refine AW.region ?_
                          refine AL.go (OpR.plain rfl (r_bin rfl rfl (nb rfl) rfl (run_int_eql _ _ _))) ?_
                          refine AL.go (OpR.plain rfl (r_assign rfl (nb rfl) (by rintro _ ⟨⟩))) ?_
                          refine AL.nil ?_
                          refine thenN ?_
                          refine AW.condb rfl (fun h13 => ?_) (fun h13 => ?_)
                          · have h13n := h13; try simp only [dtt, dff, bqi, bqf, bni, bnf, nt1, nf1, nt0, nf0, ne_eq, ilt, ile] at h13n
                            refine AW.seq ?_
                            refine AW.region ?_
                            refine AL.go (OpR.plain rfl (r_assign rfl (nb rfl) (by rintro _ ⟨⟩; rfl))) ?_
                            refine AL.nil ?_
                            refine thenN ?_
                            refine AW.ret ?_
                            refine inbR ?_
                            refine thenR ?_
                            refine fin_id (.inr rfl) (ends_of rfl (.tmp rfl .nil)) ?_ .nil rfl rfl rfl rfl
                            simp only [retA]
                            refine A.le_of_eq ?_
                            unfold levelM
                            first | rfl | (simp_all; done) | (repeat (first | rw [if_pos (by omega)] | rw [if_neg (by omega)]))
                          · have h13n := h13; try simp only [dtt, dff, bqi, bqf, bni, bnf, nt1, nf1, nt0, nf0, ne_eq, ilt, ile] at h13n
                            refine AW.seq ?_
                            refine AW.region ?_
                            refine AL.go (OpR.plain rfl (r_bin rfl rfl (nb rfl) rfl (run_int_eql _ _ _))) ?_
                            refine AL.go (OpR.plain rfl (r_assign rfl (nb rfl) (by rintro _ ⟨⟩))) ?_
                            refine AL.nil ?_
                            refine thenN ?_
                            refine AW.condb rfl (fun h14 => ?_) (fun h14 => ?_)
                            · have h14n := h14; try simp only [dtt, dff, bqi, bqf, bni, bnf, nt1, nf1, nt0, nf0, ne_eq, ilt, ile] at h14n
                              refine AW.seq ?_
                              refine AW.region ?_
                              refine AL.go (OpR.plain rfl (r_assign rfl (nb rfl) (by rintro _ ⟨⟩; rfl))) ?_
                              refine AL.nil ?_
                              refine thenN ?_
                              refine AW.ret ?_
                              refine inbR ?_
                              refine thenR ?_
                              refine fin_id (.inr rfl) (ends_of rfl (.tmp rfl .nil)) ?_ .nil rfl rfl rfl rfl
                              simp only [retA]
                              refine A.le_of_eq ?_
                              unfold levelM
                              first | rfl | (simp_all; done) | (repeat (first | rw [if_pos (by omega)] | rw [if_neg (by omega)]))
                            · have h14n := h14; try simp only [dtt, dff, bqi, bqf, bni, bnf, nt1, nf1, nt0, nf0, ne_eq, ilt, ile] at h14n
                              refine AW.skip ?_
                              refine inbN ?_
                              refine thenN ?_
                              refine AW.seq ?_
                              refine AW.region ?_
                              refine AL.go (OpR.plain rfl (r_assign rfl (nb rfl) (by rintro _ ⟨⟩; rfl))) ?_
                              refine AL.nil ?_
                              refine thenN ?_
                              refine AW.ret ?_
                              refine fin_id (.inr rfl) (ends_of rfl (.tmp rfl .nil)) ?_ .nil rfl rfl rfl rfl
                              simp only [retA]
                              refine A.le_of_eq ?_
                              unfold levelM
                              first | rfl | (simp_all; done) | (repeat (first | rw [if_pos (by omega)] | rw [if_neg (by omega)]))

theorem op_s (op : Int) : Am.Spec Tryd.prog 16 [A.i64 op] [] (A.val (.string (opM op))) [] := by
  refine spec_ofN (n := 14) Tryd.func16 rfl rfl (nb rfl) ?_
  show AW _ _ (⟨[(0, A.i64 op)], [], []⟩ : St) _
  refine AW.seq ?_
  refine AW.region ?_
  refine AL.go (OpR.plain rfl (r_assign rfl (nb rfl) (by rintro _ ⟨⟩; rfl))) ?_
  refine AL.nil ?_
  refine thenN ?_
  refine AW.seq ?_
  refine AW.region ?_
  refine AL.go (OpR.plain rfl (r_buildArr ar_61 rfl zc_61 rfl rfl (by simp only [fillC, putAt, gez, ges, if_true, and_self, Nat.reduceLeDiff, Nat.reduceMul, Nat.zero_mul, Nat.mul_one, true_and, tks, tkz, tkn, dps, dpz, cap, nap, apn, lnc, lnn, zad, Nat.reduceAdd, adz]; rfl) (nb rfl))) ?_
  refine AL.go (OpR.plain rfl (r_alloc 101 ti_61 zc_61 rfl rfl (nb rfl))) ?_
  refine AL.go (OpR.plain rfl (r_storeN ti_61 rfl rfl rfl rfl rfl (nb rfl) (by simp only [putAt, tks, tkz, tkn, dps, dpz, cap, nap, apn, lnc, lnn, zad, Nat.reduceAdd, adz]; rfl) (by rintro _ ⟨⟩))) ?_
  refine AL.nil ?_
  refine thenN ?_
  refine AW.seq ?_
  refine AW.seq ?_
  refine AW.region ?_
  refine AL.go (OpR.plain rfl (r_move rfl (nb rfl) (by rintro _ ⟨⟩))) ?_
  refine AL.go (OpR.plain rfl (r_bin rfl rfl (nb rfl) rfl (run_int_lss _ _ _))) ?_
  refine AL.go (OpR.plain rfl (r_move rfl (nb rfl) (by rintro _ ⟨⟩))) ?_
  refine AL.ifb (t := 7) rfl (fun h1 => ?_) (fun h1 => ?_)
  · have h1n := h1; try simp only [dtt, dff, bqi, bqf, bni, bnf, nt1, nf1, nt0, nf0, ne_eq, ilt, ile] at h1n
    refine AL.go (.off rfl rfl (nb rfl) rfl (by rw [h1]; decide) rfl (nb rfl)) ?_
    refine AL.go (.off rfl rfl (nb rfl) rfl (by rw [h1]; decide) rfl (nb rfl)) ?_
    refine AL.go (OpR.plain rfl (r_pickTb rfl (h1) rfl (nb rfl) (by rintro _ ⟨⟩; rfl))) ?_
    refine AL.nil ?_
    refine thenN ?_
    refine AW.condT rfl (rfl) ?_
    refine AW.seq ?_
    refine AW.region ?_
    refine AL.go (OpR.plain rfl (r_assign rfl (nb rfl) (by rintro _ ⟨⟩; rfl))) ?_
    refine AL.nil ?_
    refine thenN ?_
    refine AW.ret ?_
    refine thenR ?_
    refine fin_id (.inr rfl) (ends_of rfl (.tmp rfl .nil)) ?_ .nil rfl rfl rfl rfl
    simp only [retA]
    first | exact A.le_refl _ | (refine A.le_of_eq ?_; rw [opM_none (by omega)])
  · have h1n := h1; try simp only [dtt, dff, bqi, bqf, bni, bnf, nt1, nf1, nt0, nf0, ne_eq, ilt, ile] at h1n
    refine AL.go (OpR.onb rfl rfl (nb rfl) rfl (h1) (r_move rfl (nb rfl) (by rintro _ ⟨⟩))) ?_
    refine AL.go (OpR.onb rfl rfl (nb rfl) rfl (h1) (r_bin rfl rfl (nb rfl) rfl (run_int_geq _ _ _))) ?_
    refine AL.go (OpR.plain rfl (r_pickFb rfl (h1) rfl (nb rfl) (by rintro _ ⟨⟩))) ?_
    refine AL.nil ?_
    refine thenN ?_
    refine AW.condb rfl (fun h2 => ?_) (fun h2 => ?_)
    · have h2n := h2; try simp only [dtt, dff, bqi, bqf, bni, bnf, nt1, nf1, nt0, nf0, ne_eq, ilt, ile] at h2n
      refine AW.seq ?_
      refine AW.region ?_
      refine AL.go (OpR.plain rfl (r_assign rfl (nb rfl) (by rintro _ ⟨⟩; rfl))) ?_
      refine AL.nil ?_
      refine thenN ?_
      refine AW.ret ?_
      refine thenR ?_
      refine fin_id (.inr rfl) (ends_of rfl (.tmp rfl .nil)) ?_ .nil rfl rfl rfl rfl
      simp only [retA]
      first | exact A.le_refl _ | (refine A.le_of_eq ?_; rw [opM_none (by omega)])
    · have h2n := h2; try simp only [dtt, dff, bqi, bqf, bni, bnf, nt1, nf1, nt0, nf0, ne_eq, ilt, ile] at h2n
      refine AW.skip ?_
      refine thenN ?_
      refine AW.seq ?_
      refine AW.region ?_
      refine AL.go (OpR.plain rfl (r_move rfl (nb rfl) (by rintro _ ⟨⟩))) ?_
      refine AL.go (OpR.plain rfl (r_indexAddrArr ar_61 rfl rfl (by first | omega | (simp only [dtt, dff, bqi, bqf, bni, nt1, nf1] at *; omega)) (by first | omega | (simp only [dtt, dff, bqi, bqf, bni, nt1, nf1] at *; omega)) (nb rfl))) ?_
      refine AL.go (OpR.plain rfl (r_load ti_9 rfl rfl (opCells_at (by omega) (by omega)) (nb rfl))) ?_
      refine AL.go (OpR.plain rfl (r_assign rfl (nb rfl) (by rintro _ ⟨⟩))) ?_
      refine AL.nil ?_
      refine thenN ?_
      refine AW.ret ?_
      refine fin_id (.inr rfl) (ends_of rfl (.tmp rfl .nil)) ?_ .nil rfl rfl rfl rfl
      simp only [retA]
      first | exact A.le_refl _ | (refine A.le_of_eq ?_; rw [opM_none (by omega)])

theorem part_s (e : Ex) (i : Int) (h0 : 0 ≤ i) : Am.Spec Tryd.prog 27 [exA e, A.i64 i] [] (exA (e.part i.toNat)) [] := by
  refine spec_ofN (n := 16) Tryd.func27 rfl rfl (nb rfl) ?_
  show AW _ _ (⟨[(0, exA e), (1, A.i64 i)], [], []⟩ : St) _
  refine AW.seq ?_
  refine AW.region ?_
  refine AL.go (OpR.plain rfl (r_box 101 rfl rfl rfl (nb rfl) (by rintro _ ⟨⟩))) ?_
  refine AL.go (OpR.plain rfl (r_alloc 102 ti_27 zc_27 rfl rfl (nb rfl))) ?_
  refine AL.nil ?_
  refine thenN ?_
  refine AW.seq ?_
  refine AW.seq ?_
  refine AW.region ?_
  refine AL.go (OpR.plain rfl (r_move rfl (nb rfl) (by rintro _ ⟨⟩))) ?_
  first | refine AL.go (OpR.plain rfl (r_fieldAddr fo_27_6 (by decide) rfl (nb rfl))) ?_ | refine AL.go (OpR.plain rfl (r_fieldAddrp fo_27_6 (by decide) rfl (nb rfl))) ?_
  first | refine AL.go (OpR.plain rfl (r_load ti_25 rfl rfl rfl (nb rfl))) ?_ | refine AL.go (OpR.plain rfl (r_loadp ti_25 rfl rfl (nb rfl))) ?_
  refine AL.go (OpR.plain rfl (r_len un_25 rfl (by first | exact .sl | exact .own | exact .row | exact .nil) (by intro _ h; cases h) (nb rfl) (by rintro _ ⟨⟩))) ?_
  refine AL.go (OpR.plain rfl (r_bin rfl rfl (nb rfl) rfl (run_int_geq _ _ _))) ?_
  refine AL.nil ?_
  refine thenN ?_
  refine AW.condb rfl (fun h1 => ?_) (fun h1 => ?_)
  · have h1n := h1; try simp only [dtt, dff, bqi, bqf, bni, bnf, nt1, nf1, nt0, nf0, ne_eq, ilt, ile, rows_length] at h1n
    refine AW.seq ?_
    refine AW.region ?_
    refine AL.go (OpR.plain rfl (r_build pl_27 rfl zc_27 rfl rfl (by simp only [fillC, putAt, gez, ges, if_true, and_self, Nat.reduceLeDiff, true_and, tks, tkz, tkn, dps, dpz, cap, nap, apn, lnc, lnn, zad, Nat.reduceAdd, adz]; rfl) (nb rfl))) ?_
    refine AL.go (OpR.plain rfl (r_storeN ti_27 rfl rfl rfl rfl rfl (nb rfl) (by simp only [putAt, tks, tkz, tkn, dps, dpz, cap, nap, apn, lnc, lnn, zad, Nat.reduceAdd, adz]; rfl) (by rintro _ ⟨⟩))) ?_
    refine AL.nil ?_
    refine thenN ?_
    refine AW.ret ?_
    refine thenR ?_
    refine fin_id (.inr rfl) (ends_of rfl (.cell ti_27 rfl rfl (by simp only [loaded, if_true, ler, tks, tkz, tkn, dps, dpz, cap, nap, apn, lnc, lnn, zad, Nat.reduceAdd, adz]; rfl) .nil)) ?_ .nil rfl rfl rfl rfl
    simp only [retA]
    first | (rw [part_over (by omega)]; exact A.le_agg (.cons (C.le_refl _) (.cons (C.le_refl _) (.cons (C.le_refl _) (.cons (C.le_refl _) (.cons (C.le_refl _) (.cons (C.le_refl _) (.cons (C.le_refl _) (.cons (C.le_refl _) (.cons C.le_nil .nil))))))))) ) | (rw [Ex.row_eq]; exact A.le_refl _) | exact A.le_refl _
  · have h1n := h1; try simp only [dtt, dff, bqi, bqf, bni, bnf, nt1, nf1, nt0, nf0, ne_eq, ilt, ile, rows_length] at h1n
    refine AW.skip ?_
    refine thenN ?_
    refine AW.seq ?_
    refine AW.region ?_
    first | refine AL.go (OpR.plain rfl (r_fieldAddr fo_27_6 (by decide) rfl (nb rfl))) ?_ | refine AL.go (OpR.plain rfl (r_fieldAddrp fo_27_6 (by decide) rfl (nb rfl))) ?_
    first | refine AL.go (OpR.plain rfl (r_load ti_25 rfl rfl rfl (nb rfl))) ?_ | refine AL.go (OpR.plain rfl (r_loadp ti_25 rfl rfl (nb rfl))) ?_
    refine AL.go (OpR.plain rfl (r_move rfl (nb rfl) (by rintro _ ⟨⟩))) ?_
    refine AL.go (OpR.plain rfl (r_indexAddr un_25 ti_27 rfl (by first | exact .inl rfl | exact .inr ⟨_, rfl⟩) rfl rows_len (by first | omega | (simp only [rows_length] at *; omega)) (part_row (by omega) (by first | omega | (simp only [rows_length] at *; omega))) (nb rfl))) ?_
    first | refine AL.go (OpR.plain rfl (r_load ti_27 rfl rfl (by simp only [loaded, mpc, mpn, if_true, ler, tks, tkz, tkn, dps, dpz, cap, nap, apn, lnc, lnn, zad, Nat.reduceAdd, adz]; rfl) (nb rfl))) ?_ | refine AL.go (OpR.plain rfl (r_loadp ti_27 rfl (by simp only [loaded, mpc, mpn, if_true, ler, tks, tkz, tkn, dps, dpz, cap, nap, apn, lnc, lnn, zad, Nat.reduceAdd, adz]; rfl) (nb rfl))) ?_
    refine AL.go (OpR.plain rfl (r_storeN ti_27 rfl rfl rfl rfl rfl (nb rfl) (by simp only [putAt, tks, tkz, tkn, dps, dpz, cap, nap, apn, lnc, lnn, zad, Nat.reduceAdd, adz]; rfl) (by rintro _ ⟨⟩))) ?_
    refine AL.nil ?_
    refine thenN ?_
    refine AW.ret ?_
    refine fin_id (.inr rfl) (ends_of rfl (.cell ti_27 rfl rfl (by simp only [loaded, if_true, ler, tks, tkz, tkn, dps, dpz, cap, nap, apn, lnc, lnn, zad, Nat.reduceAdd, adz]; rfl) .nil)) ?_ .nil rfl rfl rfl rfl
    simp only [retA]
    first | (rw [part_over (by omega)]; exact A.le_agg (.cons (C.le_refl _) (.cons (C.le_refl _) (.cons (C.le_refl _) (.cons (C.le_refl _) (.cons (C.le_refl _) (.cons (C.le_refl _) (.cons (C.le_refl _) (.cons (C.le_refl _) (.cons C.le_nil .nil))))))))) ) | (rw [Ex.row_eq]; exact A.le_refl _) | exact A.le_refl _

end Go.Par
