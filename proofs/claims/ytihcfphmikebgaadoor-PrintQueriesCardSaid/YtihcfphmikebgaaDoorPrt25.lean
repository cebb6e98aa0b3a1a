import Derived.Test.YtihcfphmikebgaaDoorPrt24
namespace Go.Par
open Go Go.Am Go.Proofs Go.RowKit
set_option linter.unusedVariables false
set_option linter.unusedSimpArgs false

/-! Queries -/
structure Fr where
  join : Int
  table : ByteArray
  as_ : ByteArray
  on : Ex
structure Qy where
  items : List Ex
  frm : List Fr
  whr : Ex
  group : List Ex
abbrev Fr.row (f : Fr) : List D := [.v (.int .i64 f.join), .v (.string f.table), .v (.string f.as_), .v (.int .i64 f.on.op), .v (.string f.on.tab), .v (.string f.on.name), .v (.int .i64 f.on.t), .v (.int .i64 f.on.c), .v (.int .i64 f.on.val.kind), .v (.int .i64 f.on.val.i), .v (.string f.on.val.s), .sl false (Ex.rows f.on.l)]
abbrev frRows (l : List Fr) : List (List D) := l.map Fr.row
abbrev frA (f : Fr) : A := .agg [.d (.v (.int .i64 f.join)), .d (.v (.string f.table)), .d (.v (.string f.as_)), .d (.v (.int .i64 f.on.op)), .d (.v (.string f.on.tab)), .d (.v (.string f.on.name)), .d (.v (.int .i64 f.on.t)), .d (.v (.int .i64 f.on.c)), .d (.v (.int .i64 f.on.val.kind)), .d (.v (.int .i64 f.on.val.i)), .d (.v (.string f.on.val.s)), .d (.sl false (Ex.rows f.on.l))]
abbrev qyC (q : Qy) : List C := [.d (.sl false (Ex.rows q.items)), .d (.sl false (frRows q.frm)), .d (.v (.int .i64 q.whr.op)), .d (.v (.string q.whr.tab)), .d (.v (.string q.whr.name)), .d (.v (.int .i64 q.whr.t)), .d (.v (.int .i64 q.whr.c)), .d (.v (.int .i64 q.whr.val.kind)), .d (.v (.int .i64 q.whr.val.i)), .d (.v (.string q.whr.val.s)), .d (.sl false (Ex.rows q.whr.l)), .d (.sl false (Ex.rows q.group))]
abbrev qyA (q : Qy) : A := .agg (qyC q)
abbrev Fr.zero : Fr := ⟨0, bs0, bs0, Ex.zero⟩
def joinW (j : Int) (i : Nat) : ByteArray := if j = 1 then ⟨#[32, 106, 111, 105, 110, 32]⟩ else if j = 2 then ⟨#[32, 108, 101, 102, 116, 32, 106, 111, 105, 110, 32]⟩ else if j = 3 then ⟨#[32, 115, 101, 109, 105, 32, 106, 111, 105, 110, 32]⟩ else if j = 4 then ⟨#[32, 97, 110, 116, 105, 32, 106, 111, 105, 110, 32]⟩ else if 0 < i then comma else ⟨#[]⟩
theorem joinW_size (j : Int) (i : Nat) : (joinW j i).size ≤ 11 := by
  unfold joinW
  repeat (refine ite_size (by decide) ?_)
  decide
def fromM (f : Fr) (i : Nat) : ByteArray := joinW f.join i ++ f.table ++ (if f.as_ = ⟨#[]⟩ then ⟨#[]⟩ else ⟨#[32]⟩ ++ f.as_) ++ (if 0 < i then ⟨#[32, 111, 110, 32]⟩ ++ f.on.pr else ⟨#[]⟩)
def fromsM (l : List Fr) : Nat → ByteArray
  | 0 => ⟨#[]⟩
  | i + 1 => fromsM l i ++ fromM (l.getD i Fr.zero) i
abbrev selW : ByteArray := ⟨#[115, 101, 108, 101, 99, 116, 32]⟩
abbrev fromW : ByteArray := ⟨#[32, 102, 114, 111, 109, 32]⟩
abbrev whereW : ByteArray := ⟨#[32, 119, 104, 101, 114, 101, 32]⟩
abbrev groupW : ByteArray := ⟨#[32, 103, 114, 111, 117, 112, 32, 98, 121, 32]⟩
def headM (q : Qy) (i : Nat) : ByteArray := selW ++ listM q.items ++ fromW ++ fromsM q.frm i
def queryM (q : Qy) : ByteArray := headM q q.frm.length ++ (if q.whr.op ≠ 0 then whereW ++ q.whr.pr else ⟨#[]⟩) ++ (if q.group = [] then ⟨#[]⟩ else groupW ++ listM q.group)
structure QOk (q : Qy) : Prop where
  items : ∀ x ∈ q.items, PrTree x
  itemsS : ∀ x ∈ q.items, x.pr.size ≤ 1000000000
  il : q.items.length ≤ 1000
  group : ∀ x ∈ q.group, PrTree x
  groupS : ∀ x ∈ q.group, x.pr.size ≤ 1000000000
  gl : q.group.length ≤ 1000
  frm : ∀ f ∈ q.frm, PrTree f.on ∧ f.on.pr.size ≤ 1000000000 ∧ f.table.size ≤ 1000000000 ∧ f.as_.size ≤ 1000000000
  fl : q.frm.length ≤ 1000
  whr : PrTree q.whr
  whrS : q.whr.pr.size ≤ 1000000000
theorem bapp (a b c : ByteArray) : a ++ b ++ c = a ++ (b ++ c) := by apply ByteArray.ext; simp [ByteArray.data_append]
theorem bnil (a : ByteArray) : a ++ (⟨#[]⟩ : ByteArray) = a := by apply ByteArray.ext; simp [ByteArray.data_append]
theorem bnil0 (a : ByteArray) : (⟨#[]⟩ : ByteArray) ++ a = a := by apply ByteArray.ext; simp [ByteArray.data_append]
theorem sz7 (a b c d e f g : UInt8) : (⟨#[a, b, c, d, e, f, g]⟩ : ByteArray).size = 7 := rfl
theorem sz6 (a b c d e f : UInt8) : (⟨#[a, b, c, d, e, f]⟩ : ByteArray).size = 6 := rfl
theorem sz10 (a b c d e f g h i j : UInt8) : (⟨#[a, b, c, d, e, f, g, h, i, j]⟩ : ByteArray).size = 10 := rfl
theorem frGetD {q : Qy} (h : QOk q) (i : Nat) : PrTree (q.frm.getD i Fr.zero).on ∧ (q.frm.getD i Fr.zero).on.pr.size ≤ 1000000000 ∧ (q.frm.getD i Fr.zero).table.size ≤ 1000000000 ∧ (q.frm.getD i Fr.zero).as_.size ≤ 1000000000 := by
  by_cases hi : i < q.frm.length
  · exact h.frm _ (by simp [List.getD_eq_getElem?_getD, hi])
  · simp only [List.getD_eq_getElem?_getD, List.getElem?_eq_none (Nat.le_of_not_lt hi), Option.getD_none]
    exact ⟨.mk prok_zero (by simp [Ex.l]), by decide, by decide, by decide⟩
theorem fromM_size {q : Qy} (h : QOk q) (i : Nat) : (fromM (q.frm.getD i Fr.zero) i).size ≤ 3000000020 := by
  obtain ⟨h1, h2, h3, h4⟩ := frGetD h i
  have h5 := joinW_size (q.frm.getD i Fr.zero).join i
  unfold fromM
  simp only [ByteArray.size_append]
  have h6 : (if (q.frm.getD i Fr.zero).as_ = ⟨#[]⟩ then (⟨#[]⟩ : ByteArray) else ⟨#[32]⟩ ++ (q.frm.getD i Fr.zero).as_).size ≤ 1000000001 := ite_size (by decide) (by simp only [ByteArray.size_append, sz1]; omega)
  have h7 : (if 0 < i then (⟨#[32, 111, 110, 32]⟩ : ByteArray) ++ (q.frm.getD i Fr.zero).on.pr else ⟨#[]⟩).size ≤ 1000000004 := ite_size (by simp only [ByteArray.size_append, sz4]; omega) (by decide)
  omega
theorem fromsM_size {q : Qy} (h : QOk q) : ∀ i, (fromsM q.frm i).size ≤ i * 3000000020
  | 0 => Nat.zero_le _
  | i + 1 => by
    have h1 := fromsM_size h i
    have h2 := fromM_size h i
    rw [fromsM, ByteArray.size_append]
    omega
theorem headM_size {q : Qy} (h : QOk q) {i : Nat} (hi : i ≤ q.frm.length) : (headM q i).size ≤ 5000000000000 := by
  have h1 := fromsM_size h i
  have h2 := listM_take q.items.length h.il h.itemsS
  rw [List.take_length] at h2
  have h3 := h.fl
  unfold headM
  simp only [ByteArray.size_append, sz7, sz6]
  omega
theorem fr_at {l : List Fr} {j : Int} (h0 : 0 ≤ j) (h : j < l.length) : (frRows l)[j.toNat]? = some (l.getD j.toNat Fr.zero).row := by
  have : j.toNat < l.length := by omega
  simp [frRows, List.getD_eq_getElem?_getD, this]
theorem fr_atn {l : List Fr} {i : Nat} (h : i < l.length) : (frRows l)[((i : Nat) : Int).toNat]? = some (l.getD i Fr.zero).row := by
  simp [frRows, List.getD_eq_getElem?_getD, h]
theorem fr_len {l : List Fr} : ∀ r ∈ frRows l, r.length = 12 := by
  intro r hr
  obtain ⟨_, _, rfl⟩ := List.mem_map.1 hr
  rfl
theorem joins_at {j : Int} (h0 : 1 ≤ j) (h1 : j ≤ 4) (i : Nat) : ([[.v (.string ⟨#[32, 106, 111, 105, 110, 32]⟩)], [.v (.string ⟨#[32, 108, 101, 102, 116, 32, 106, 111, 105, 110, 32]⟩)], [.v (.string ⟨#[32, 115, 101, 109, 105, 32, 106, 111, 105, 110, 32]⟩)], [.v (.string ⟨#[32, 97, 110, 116, 105, 32, 106, 111, 105, 110, 32]⟩)]] : List (List D))[(j - 1).toNat]? = some [.v (.string (joinW j i))] := by
  obtain ⟨n, rfl⟩ : ∃ n : Nat, j = n := ⟨j.toNat, by omega⟩
  have h1 : 1 ≤ n := by omega
  have : n ≤ 4 := by omega
  match n, h1, this with
  | 1, _, _ | 2, _, _ | 3, _, _ | 4, _, _ => rfl
theorem joinW_else {j : Int} (h : ¬ (1 ≤ j ∧ j ≤ 4)) (i : Nat) : joinW j i = if 0 < i then comma else ⟨#[]⟩ := by
  unfold joinW
  repeat (rw [if_neg (by omega)])

theorem en_31 : enters Tryd.prog 31 = true := by kernel_rfl
theorem en_32 : enters Tryd.prog 32 = true := by kernel_rfl
theorem fo_37_0 : fieldOf Tryd.prog 37 0 = some (0, 1, false) := by kernel_rfl
theorem fo_37_1 : fieldOf Tryd.prog 37 1 = some (1, 1, false) := by kernel_rfl
theorem fo_37_2 : fieldOf Tryd.prog 37 2 = some (2, 9, true) := by kernel_rfl
theorem fo_37_3 : fieldOf Tryd.prog 37 3 = some (11, 1, false) := by kernel_rfl
theorem fo_57_0 : fieldOf Tryd.prog 57 0 = some (0, 1, false) := by kernel_rfl
theorem fo_57_1 : fieldOf Tryd.prog 57 1 = some (1, 1, false) := by kernel_rfl
theorem fo_57_2 : fieldOf Tryd.prog 57 2 = some (2, 1, false) := by kernel_rfl
theorem fo_57_3 : fieldOf Tryd.prog 57 3 = some (3, 9, true) := by kernel_rfl
theorem ti_35 : tinf Tryd.prog 35 = some (1, 24, false, some (Value.slice none 0 0)) := by kernel_rfl
theorem ti_57 : tinf Tryd.prog 57 = some (12, 152, true, some (Value.agg (List.toArray [Value.int IntKind.i64 0, Value.string { data := #[] }, Value.string { data := #[] }, Value.int IntKind.i64 0, Value.string { data := #[] }, Value.string { data := #[] }, Value.int IntKind.i64 0, Value.int IntKind.i64 0, Value.int IntKind.i64 0, Value.int IntKind.i64 0, Value.string { data := #[] }, Value.slice none 0 0]))) := by kernel_rfl
theorem un_35 : Tryd.prog.underlying 35 = some (TypeDesc.slice 57) := by kernel_rfl
theorem zc_57 : plainCells (Value.agg (List.toArray [Value.int IntKind.i64 0, Value.string { data := #[] }, Value.string { data := #[] }, Value.int IntKind.i64 0, Value.string { data := #[] }, Value.string { data := #[] }, Value.int IntKind.i64 0, Value.int IntKind.i64 0, Value.int IntKind.i64 0, Value.int IntKind.i64 0, Value.string { data := #[] }, Value.slice none 0 0])) = [.d (.v (Value.int IntKind.i64 0)), .d (.v (Value.string { data := #[] })), .d (.v (Value.string { data := #[] })), .d (.v (Value.int IntKind.i64 0)), .d (.v (Value.string { data := #[] })), .d (.v (Value.string { data := #[] })), .d (.v (Value.int IntKind.i64 0)), .d (.v (Value.int IntKind.i64 0)), .d (.v (Value.int IntKind.i64 0)), .d (.v (Value.int IntKind.i64 0)), .d (.v (Value.string { data := #[] })), .d (.v (Value.slice none 0 0))] := rfl

theorem join_p (f : Fr) (i : Nat) : Am.Spec Tryd.prog 32 [frA f, A.i64 (i : Int)] [] (A.val (.string (joinW f.join i))) [] := by
  refine spec_ofN (n := 24) Tryd.func32 rfl rfl (nb rfl) ?_
  show AW _ _ (⟨[(0, frA f), (1, A.i64 (i : Int))], [], []⟩ : St) _
  refine AW.seq ?_
  refine AW.region ?_
  refine AL.go (OpR.plain rfl (r_box 101 rfl rfl rfl (nb rfl) (by rintro _ ⟨⟩))) ?_
  refine AL.go (OpR.plain rfl (r_assign rfl (nb rfl) (by rintro _ ⟨⟩; rfl))) ?_
  refine AL.nil ?_
  refine thenN ?_
  refine AW.seq ?_
  refine AW.block ?_
  refine AW.seq ?_
  refine AW.region ?_
  first | refine AL.go (OpR.plain rfl (r_fieldAddr fo_57_0 (by decide) rfl (nb rfl))) ?_ | refine AL.go (OpR.plain rfl (r_fieldAddrp fo_57_0 (by decide) rfl (nb rfl))) ?_
  first | refine AL.go (OpR.plain rfl (r_load ti_3 rfl rfl rfl (nb rfl))) ?_ | refine AL.go (OpR.plain rfl (r_loadp ti_3 rfl rfl (nb rfl))) ?_
  refine AL.go (OpR.plain rfl (r_bin rfl rfl (nb rfl) rfl (run_int_eql _ _ _))) ?_
  refine AL.go (OpR.plain rfl (r_assign rfl (nb rfl) (by rintro _ ⟨⟩))) ?_
  refine AL.nil ?_
  refine thenN ?_
  refine AW.condb rfl (fun h1 => ?_) (fun h1 => ?_)
  · have h1n := h1; try simp only [dtt, dff, bqi, bqf, bni, bnf, nt1, nf1, nt0, nf0, ne_eq, ilt, ile] at h1n
    refine AW.seq ?_
    refine AW.region ?_
    refine AL.go (OpR.plain rfl (r_assign rfl (nb rfl) (by rintro _ ⟨⟩; rfl))) ?_
    refine AL.nil ?_
    refine thenN ?_
    refine AW.ret ?_
    refine inbR ?_
    refine thenR ?_
    refine fin_id (.inr rfl) (ends_of rfl (.tmp rfl .nil)) ?_ .nil rfl rfl rfl rfl
    simp only [retA]
    refine A.le_of_eq ?_
    unfold joinW
    repeat (first | rw [if_pos (by first | assumption | omega)] | rw [if_neg (by first | assumption | omega)])
  · have h1n := h1; try simp only [dtt, dff, bqi, bqf, bni, bnf, nt1, nf1, nt0, nf0, ne_eq, ilt, ile] at h1n
    refine AW.seq ?_
    refine AW.region ?_
    first | refine AL.go (OpR.plain rfl (r_fieldAddr fo_57_0 (by decide) rfl (nb rfl))) ?_ | refine AL.go (OpR.plain rfl (r_fieldAddrp fo_57_0 (by decide) rfl (nb rfl))) ?_
    first | refine AL.go (OpR.plain rfl (r_load ti_3 rfl rfl rfl (nb rfl))) ?_ | refine AL.go (OpR.plain rfl (r_loadp ti_3 rfl rfl (nb rfl))) ?_
    refine AL.go (OpR.plain rfl (r_bin rfl rfl (nb rfl) rfl (run_int_eql _ _ _))) ?_
    refine AL.go (OpR.plain rfl (r_assign rfl (nb rfl) (by rintro _ ⟨⟩))) ?_
    refine AL.nil ?_
    refine thenN ?_
    refine AW.condb rfl (fun h2 => ?_) (fun h2 => ?_)
    · have h2n := h2; try simp only [dtt, dff, bqi, bqf, bni, bnf, nt1, nf1, nt0, nf0, ne_eq, ilt, ile] at h2n
      refine AW.seq ?_
      refine AW.region ?_
      refine AL.go (OpR.plain rfl (r_assign rfl (nb rfl) (by rintro _ ⟨⟩; rfl))) ?_
      refine AL.nil ?_
      refine thenN ?_
      refine AW.ret ?_
      refine inbR ?_
      refine thenR ?_
      refine fin_id (.inr rfl) (ends_of rfl (.tmp rfl .nil)) ?_ .nil rfl rfl rfl rfl
      simp only [retA]
      refine A.le_of_eq ?_
      unfold joinW
      repeat (first | rw [if_pos (by first | assumption | omega)] | rw [if_neg (by first | assumption | omega)])
    · have h2n := h2; try simp only [dtt, dff, bqi, bqf, bni, bnf, nt1, nf1, nt0, nf0, ne_eq, ilt, ile] at h2n
      refine AW.seq ?_
      refine AW.region ?_
      first | refine AL.go (OpR.plain rfl (r_fieldAddr fo_57_0 (by decide) rfl (nb rfl))) ?_ | refine AL.go (OpR.plain rfl (r_fieldAddrp fo_57_0 (by decide) rfl (nb rfl))) ?_
      first | refine AL.go (OpR.plain rfl (r_load ti_3 rfl rfl rfl (nb rfl))) ?_ | refine AL.go (OpR.plain rfl (r_loadp ti_3 rfl rfl (nb rfl))) ?_
      refine AL.go (OpR.plain rfl (r_bin rfl rfl (nb rfl) rfl (run_int_eql _ _ _))) ?_
      refine AL.go (OpR.plain rfl (r_assign rfl (nb rfl) (by rintro _ ⟨⟩))) ?_
      refine AL.nil ?_
      refine thenN ?_
      refine AW.condb rfl (fun h3 => ?_) (fun h3 => ?_)
      · have h3n := h3; try simp only [dtt, dff, bqi, bqf, bni, bnf, nt1, nf1, nt0, nf0, ne_eq, ilt, ile] at h3n
        refine AW.seq ?_
        refine AW.region ?_
        refine AL.go (OpR.plain rfl (r_assign rfl (nb rfl) (by rintro _ ⟨⟩; rfl))) ?_
        refine AL.nil ?_
        refine thenN ?_
        refine AW.ret ?_
        refine inbR ?_
        refine thenR ?_
        refine fin_id (.inr rfl) (ends_of rfl (.tmp rfl .nil)) ?_ .nil rfl rfl rfl rfl
        simp only [retA]
        refine A.le_of_eq ?_
        unfold joinW
        repeat (first | rw [if_pos (by first | assumption | omega)] | rw [if_neg (by first | assumption | omega)])
      · have h3n := h3; try simp only [dtt, dff, bqi, bqf, bni, bnf, nt1, nf1, nt0, nf0, ne_eq, ilt, ile] at h3n
        refine AW.seq ?_
        refine AW.region ?_
        first | refine AL.go (OpR.plain rfl (r_fieldAddr fo_57_0 (by decide) rfl (nb rfl))) ?_ | refine AL.go (OpR.plain rfl (r_fieldAddrp fo_57_0 (by decide) rfl (nb rfl))) ?_
        first | refine AL.go (OpR.plain rfl (r_load ti_3 rfl rfl rfl (nb rfl))) ?_ | refine AL.go (OpR.plain rfl (r_loadp ti_3 rfl rfl (nb rfl))) ?_
        refine AL.go (OpR.plain rfl (r_bin rfl rfl (nb rfl) rfl (run_int_eql _ _ _))) ?_
        refine AL.go (OpR.plain rfl (r_assign rfl (nb rfl) (by rintro _ ⟨⟩))) ?_
        refine AL.nil ?_
        refine thenN ?_
        refine AW.condb rfl (fun h4 => ?_) (fun h4 => ?_)
        · have h4n := h4; try simp only [dtt, dff, bqi, bqf, bni, bnf, nt1, nf1, nt0, nf0, ne_eq, ilt, ile] at h4n
          refine AW.seq ?_
          refine AW.region ?_
          refine AL.go (OpR.plain rfl (r_assign rfl (nb rfl) (by rintro _ ⟨⟩; rfl))) ?_
          refine AL.nil ?_
          refine thenN ?_
          refine AW.ret ?_
          refine inbR ?_
          refine thenR ?_
          refine fin_id (.inr rfl) (ends_of rfl (.tmp rfl .nil)) ?_ .nil rfl rfl rfl rfl
          simp only [retA]
          refine A.le_of_eq ?_
          unfold joinW
          repeat (first | rw [if_pos (by first | assumption | omega)] | rw [if_neg (by first | assumption | omega)])
        · have h4n := h4; try simp only [dtt, dff, bqi, bqf, bni, bnf, nt1, nf1, nt0, nf0, ne_eq, ilt, ile] at h4n
          refine AW.seq ?_
          refine AW.region ?_
          refine AL.go (OpR.plain rfl (r_move rfl (nb rfl) (by rintro _ ⟨⟩))) ?_
          refine AL.go (OpR.plain rfl (r_bin rfl rfl (nb rfl) rfl (run_int_gtr _ _ _))) ?_
          refine AL.go (OpR.plain rfl (r_assign rfl (nb rfl) (by rintro _ ⟨⟩))) ?_
          refine AL.nil ?_
          refine thenN ?_
          refine AW.condb rfl (fun h5 => ?_) (fun h5 => ?_)
          · have h5n := h5; try simp only [dtt, dff, bqi, bqf, bni, bnf, nt1, nf1, nt0, nf0, ne_eq, ilt, ile] at h5n
            refine AW.seq ?_
            refine AW.region ?_
            refine AL.go (OpR.plain rfl (r_assign rfl (nb rfl) (by rintro _ ⟨⟩; rfl))) ?_
            refine AL.nil ?_
            refine thenN ?_
            refine AW.ret ?_
            refine inbR ?_
            refine thenR ?_
            refine fin_id (.inr rfl) (ends_of rfl (.tmp rfl .nil)) ?_ .nil rfl rfl rfl rfl
            simp only [retA]
            refine A.le_of_eq ?_
            unfold joinW
            repeat (first | rw [if_pos (by first | assumption | omega)] | rw [if_neg (by first | assumption | omega)])
          · have h5n := h5; try simp only [dtt, dff, bqi, bqf, bni, bnf, nt1, nf1, nt0, nf0, ne_eq, ilt, ile] at h5n
            refine AW.skip ?_
            refine inbN ?_
            refine thenN ?_
            refine AW.seq ?_
            refine AW.region ?_
            refine AL.go (OpR.plain rfl (r_assign rfl (nb rfl) (by rintro _ ⟨⟩; rfl))) ?_
            refine AL.nil ?_
            refine thenN ?_
            refine AW.ret ?_
            refine fin_id (.inr rfl) (ends_of rfl (.tmp rfl .nil)) ?_ .nil rfl rfl rfl rfl
            simp only [retA]
            refine A.le_of_eq ?_
            unfold joinW
            repeat (first | rw [if_pos (by first | assumption | omega)] | rw [if_neg (by first | assumption | omega)])

set_option maxHeartbeats 1000000 in
theorem query_p (q : Qy) (hQ : QOk q) : Am.Spec Tryd.prog 14 [qyA q] [(90, pow)] (A.val (.string (queryM q))) [(90, pow)] := by
  refine spec_ofN (n := 65) Tryd.func14 rfl rfl (nb rfl) ?_
  show AW _ _ (⟨[(0, qyA q)], [(90, pow)], []⟩ : St) _
  have hL := listM_take q.items.length hQ.il hQ.itemsS
  rw [List.take_length] at hL
  have hG := listM_take q.group.length hQ.gl hQ.groupS
  rw [List.take_length] at hG
  have hW := hQ.whrS
  have hfl := hQ.fl
  refine AW.seq ?_
  refine AW.region ?_
  refine AL.go (OpR.plain rfl (r_box 101 rfl rfl rfl (nb rfl) (by rintro _ ⟨⟩))) ?_
  refine AL.go (OpR.plain rfl (r_assign rfl (nb rfl) (by rintro _ ⟨⟩; rfl))) ?_
  refine AL.nil ?_
  refine thenN ?_
  refine AW.seq ?_
  refine AW.region ?_
  first | refine AL.go (OpR.plain rfl (r_fieldAddr fo_37_0 (by decide) rfl (nb rfl))) ?_ | refine AL.go (OpR.plain rfl (r_fieldAddrp fo_37_0 (by decide) rfl (nb rfl))) ?_
  first | refine AL.go (OpR.plain rfl (r_load ti_25 rfl rfl rfl (nb rfl))) ?_ | refine AL.go (OpR.plain rfl (r_loadp ti_25 rfl rfl (nb rfl))) ?_
  refine AL.go (OpR.plain rfl (r_callId (list_p q.items hQ.il (fun x hx => (prs_all (hQ.items x hx)).1) hQ.itemsS) en_31 rfl rfl rfl rfl (.cons (A.le_refl _) .nil) rfl (.cons rfl .nil) rfl rfl rfl (nb rfl))) ?_
  refine AL.go (OpR.plain rfl (r_bin rfl rfl (nb rfl) rfl (run_str_add _ _ (by first | omega | (simp only [List.length_map, Int.toNat_natCast] at *; omega) | (simp only [ByteArray.size_append, sz1, sz2, sz4, sz6, sz7, sz10, Int.toNat_natCast] at *; omega))))) ?_
  refine AL.go (OpR.plain rfl (r_bin rfl rfl (nb rfl) rfl (run_str_add _ _ (by first | omega | (simp only [List.length_map, Int.toNat_natCast] at *; omega) | (simp only [ByteArray.size_append, sz1, sz2, sz4, sz6, sz7, sz10, Int.toNat_natCast] at *; omega))))) ?_
  refine AL.go (OpR.plain rfl (r_assign rfl (nb rfl) (by rintro _ ⟨⟩))) ?_
  refine AL.nil ?_
  refine thenN ?_
  refine AW.seq ?_
  refine AW.seq ?_
  refine AW.region ?_
  first | refine AL.go (OpR.plain rfl (r_fieldAddr fo_37_1 (by decide) rfl (nb rfl))) ?_ | refine AL.go (OpR.plain rfl (r_fieldAddrp fo_37_1 (by decide) rfl (nb rfl))) ?_
  first | refine AL.go (OpR.plain rfl (r_load ti_35 rfl rfl rfl (nb rfl))) ?_ | refine AL.go (OpR.plain rfl (r_loadp ti_35 rfl rfl (nb rfl))) ?_
  refine AL.go (OpR.plain rfl (r_len un_35 rfl (by first | exact .sl | exact .own | exact .row | exact .nil) (by intro _ h; cases h) (nb rfl) (by rintro _ ⟨⟩))) ?_
  refine AL.go (OpR.plain rfl (r_move rfl (nb rfl) (by rintro _ ⟨⟩; rfl))) ?_
  refine AL.nil ?_
  refine thenN ?_
  refine AW.block ?_
  refine AW.loop (ι := { x : Nat // x ≤ q.frm.length }) (fun x => ⟨[(1, A.c (.ref 101 0)), (12, A.c (.d (.sl false (frRows q.frm)))), (13, A.i64 (q.frm.length : Int)), (14, A.i64 (x.1 : Int)), (3, A.val (.string (headM q x.1)))], [(101, .box (qyC q)), (90, pow)], []⟩) (fun x => q.frm.length - x.1) ⟨0, Nat.zero_le _⟩ (weakens_id (.cons rfl (A.le_of_eq (by first | rfl | (simp [A.ren, C.ren, renOf, lk]; done) | (simp [A.ren, C.ren, renOf, lk]; omega) | omega)) (.cons rfl (A.le_of_eq (by first | rfl | (simp [A.ren, C.ren, renOf, lk]; done) | (simp [A.ren, C.ren, renOf, lk]; omega) | omega)) (.cons rfl (A.le_of_eq (by simp)) (.cons rfl (A.le_of_eq (by first | rfl | (simp [A.ren, C.ren, renOf, lk]; done) | (simp [A.ren, C.ren, renOf, lk]; omega) | omega)) (.cons rfl (A.le_of_eq (by simp only [headM, fromsM, bnil]; try rfl)) .nil))))) (.cons rfl (Ob.le_refl _) (.cons rfl (Ob.le_refl _) .nil)) rfl rfl rfl rfl) ?_
  rintro ⟨i, hI⟩
  have hF := frGetD hQ i
  have hH := headM_size hQ hI
  have hJ := joinW_size (q.frm.getD i Fr.zero).join i
  show AW _ _ (⟨[(1, A.c (.ref 101 0)), (12, A.c (.d (.sl false (frRows q.frm)))), (13, A.i64 (q.frm.length : Int)), (14, A.i64 (i : Int)), (3, A.val (.string (headM q i)))], [(101, .box (qyC q)), (90, pow)], []⟩ : St) _
  refine AW.seq ?_
  refine AW.region ?_
  refine AL.go (OpR.plain rfl (r_bin rfl rfl (nb rfl) rfl (run_int_lss _ _ _))) ?_
  refine AL.nil ?_
  refine thenN ?_
  refine AW.seq ?_
  refine AW.condb rfl (fun h1 => ?_) (fun h1 => ?_)
  · have h1n := h1; try simp only [dtt, dff, bqi, bqf, bni, bnf, nt1, nf1, nt0, nf0, ne_eq, ilt, ile, rows_length, Int.toNat_natCast, List.length_map] at h1n
    refine AW.skip ?_
    refine thenN ?_
    refine AW.seq ?_
    refine AW.block ?_
    refine AW.seq ?_
    refine AW.region ?_
    refine AL.go (OpR.plain rfl (r_move rfl (nb rfl) (by rintro _ ⟨⟩))) ?_
    refine AL.go (OpR.plain rfl (r_indexAddr un_35 ti_57 rfl (by first | exact .inl rfl | exact .inr ⟨_, rfl⟩) rfl fr_len (by first | omega | (simp only [List.length_map, Int.toNat_natCast] at *; omega) | (simp only [ByteArray.size_append, sz1, sz2, sz4, sz6, sz7, sz10, Int.toNat_natCast] at *; omega)) (fr_atn (by first | omega | (simp at *; omega))) (nb rfl))) ?_
    first | refine AL.go (OpR.plain rfl (r_load ti_57 rfl rfl (by simp only [loaded, mpc, mpn, if_true, ler, tks, tkz, tkn, dps, dpz, cap, nap, apn, lnc, lnn, zad, Nat.reduceAdd, adz]; rfl) (nb rfl))) ?_ | refine AL.go (OpR.plain rfl (r_loadp ti_57 rfl (by simp only [loaded, mpc, mpn, if_true, ler, tks, tkz, tkn, dps, dpz, cap, nap, apn, lnc, lnn, zad, Nat.reduceAdd, adz]; rfl) (nb rfl))) ?_
    refine AL.go (OpR.plain rfl (r_alloc 102 ti_57 zc_57 rfl rfl (nb rfl))) ?_
    refine AL.go (OpR.plain rfl (r_assign rfl (nb rfl) (by rintro _ ⟨⟩))) ?_
    refine AL.go (OpR.plain rfl (r_storeN ti_57 rfl rfl rfl rfl rfl (nb rfl) (by simp only [putAt, tks, tkz, tkn, dps, dpz, cap, nap, apn, lnc, lnn, zad, Nat.reduceAdd, adz]; rfl) (by rintro _ ⟨⟩))) ?_
    refine AL.nil ?_
    refine thenN ?_
    refine AW.seq ?_
    refine AW.draw ?_
    refine DW.go (OpR.plain rfl (r_move rfl (nb rfl) (by rintro _ ⟨⟩))) ?_
    first | refine DW.go (OpR.plain rfl (r_load ti_57 rfl rfl (by simp only [loaded, mpc, mpn, if_true, ler, tks, tkz, tkn, dps, dpz, cap, nap, apn, lnc, lnn, zad, Nat.reduceAdd, adz]; rfl) (nb rfl))) ?_ | refine DW.go (OpR.plain rfl (r_loadp ti_57 rfl (by simp only [loaded, mpc, mpn, if_true, ler, tks, tkz, tkn, dps, dpz, cap, nap, apn, lnc, lnn, zad, Nat.reduceAdd, adz]; rfl) (nb rfl))) ?_
    refine DW.go (OpR.plain rfl (r_move rfl (nb rfl) (by rintro _ ⟨⟩))) ?_
    refine DW.go (OpR.plain rfl (r_callFun (join_p (q.frm.getD i Fr.zero) i) en_32 rfl rfl rfl rfl (.cons (A.le_refl _) (.cons (A.le_refl _) .nil)) rfl (nb rfl))) ?_
    first | refine DW.go (OpR.plain rfl (r_fieldAddr fo_57_1 (by decide) rfl (nb rfl))) ?_ | refine DW.go (OpR.plain rfl (r_fieldAddrp fo_57_1 (by decide) rfl (nb rfl))) ?_
    first | refine DW.go (OpR.plain rfl (r_load ti_9 rfl rfl rfl (nb rfl))) ?_ | refine DW.go (OpR.plain rfl (r_loadp ti_9 rfl rfl (nb rfl))) ?_
    refine DW.go (OpR.plain rfl (r_bin rfl rfl (nb rfl) rfl (run_str_add _ _ (by first | omega | (simp only [List.length_map, Int.toNat_natCast] at *; omega) | (simp only [ByteArray.size_append, sz1, sz2, sz4, sz6, sz7, sz10, Int.toNat_natCast] at *; omega))))) ?_
    refine DW.go (OpR.plain rfl (r_bin rfl rfl (nb rfl) rfl (run_str_add _ _ (by first | omega | (simp only [List.length_map, Int.toNat_natCast] at *; omega) | (simp only [ByteArray.size_append, sz1, sz2, sz4, sz6, sz7, sz10, Int.toNat_natCast] at *; omega))))) ?_
    refine DW.go (OpR.plain rfl (r_assign rfl (nb rfl) (by rintro _ ⟨⟩))) ?_
    refine DW.fin mixed (by kernel_rfl) (by kernel_rfl) ?_
    refine thenN ?_
    refine AW.seq ?_
    refine AW.seq ?_
    refine AW.region ?_
    first | refine AL.go (OpR.plain rfl (r_fieldAddr fo_57_2 (by decide) rfl (nb rfl))) ?_ | refine AL.go (OpR.plain rfl (r_fieldAddrp fo_57_2 (by decide) rfl (nb rfl))) ?_
    first | refine AL.go (OpR.plain rfl (r_load ti_9 rfl rfl rfl (nb rfl))) ?_ | refine AL.go (OpR.plain rfl (r_loadp ti_9 rfl rfl (nb rfl))) ?_
    refine AL.go (OpR.plain rfl (r_bin rfl rfl (nb rfl) rfl (run_str_neq _ _))) ?_
    refine AL.nil ?_
    refine thenN ?_
    refine AW.condb rfl (fun h2 => ?_) (fun h2 => ?_)
    · have h2n := h2; try simp only [dtt, dff, bqi, bqf, bni, bnf, nt1, nf1, nt0, nf0, ne_eq, ilt, ile, rows_length, Int.toNat_natCast, List.length_map] at h2n
      refine AW.region ?_
      refine AL.go (OpR.plain rfl (r_move rfl (nb rfl) (by rintro _ ⟨⟩))) ?_
      first | refine AL.go (OpR.plain rfl (r_fieldAddr fo_57_2 (by decide) rfl (nb rfl))) ?_ | refine AL.go (OpR.plain rfl (r_fieldAddrp fo_57_2 (by decide) rfl (nb rfl))) ?_
      first | refine AL.go (OpR.plain rfl (r_load ti_9 rfl rfl rfl (nb rfl))) ?_ | refine AL.go (OpR.plain rfl (r_loadp ti_9 rfl rfl (nb rfl))) ?_
      refine AL.go (OpR.plain rfl (r_bin rfl rfl (nb rfl) rfl (run_str_add _ _ (by first | omega | (simp only [List.length_map, Int.toNat_natCast] at *; omega) | (simp only [ByteArray.size_append, sz1, sz2, sz4, sz6, sz7, sz10, Int.toNat_natCast] at *; omega))))) ?_
      refine AL.go (OpR.plain rfl (r_bin rfl rfl (nb rfl) rfl (run_str_add _ _ (by first | omega | (simp only [List.length_map, Int.toNat_natCast] at *; omega) | (simp only [ByteArray.size_append, sz1, sz2, sz4, sz6, sz7, sz10, Int.toNat_natCast] at *; omega))))) ?_
      refine AL.go (OpR.plain rfl (r_assign rfl (nb rfl) (by rintro _ ⟨⟩))) ?_
      refine AL.nil ?_
      refine thenN ?_
      refine AW.seq ?_
      refine AW.region ?_
      refine AL.go (OpR.plain rfl (r_move rfl (nb rfl) (by rintro _ ⟨⟩))) ?_
      refine AL.go (OpR.plain rfl (r_bin rfl rfl (nb rfl) rfl (run_int_gtr _ _ _))) ?_
      refine AL.nil ?_
      refine thenN ?_
      refine AW.condb rfl (fun h3 => ?_) (fun h3 => ?_)
      · have h3n := h3; try simp only [dtt, dff, bqi, bqf, bni, bnf, nt1, nf1, nt0, nf0, ne_eq, ilt, ile, rows_length, Int.toNat_natCast, List.length_map] at h3n
        refine AW.region ?_
        refine AL.go (OpR.plain rfl (r_move rfl (nb rfl) (by rintro _ ⟨⟩))) ?_
        first | refine AL.go (OpR.plain rfl (r_fieldAddr fo_57_3 (by decide) rfl (nb rfl))) ?_ | refine AL.go (OpR.plain rfl (r_fieldAddrp fo_57_3 (by decide) rfl (nb rfl))) ?_
        first | refine AL.go (OpR.plain rfl (r_load ti_27 rfl rfl (by simp only [loaded, mpc, mpn, if_true, ler, tks, tkz, tkn, dps, dpz, cap, nap, apn, lnc, lnn, zad, Nat.reduceAdd, adz]; rfl) (nb rfl))) ?_ | refine AL.go (OpR.plain rfl (r_loadp ti_27 rfl (by simp only [loaded, mpc, mpn, if_true, ler, tks, tkz, tkn, dps, dpz, cap, nap, apn, lnc, lnn, zad, Nat.reduceAdd, adz]; rfl) (nb rfl))) ?_
        refine AL.go (OpR.plain rfl (r_callId ((prs_all hF.1).1) en_9 rfl rfl rfl rfl (.cons (A.le_refl _) .nil) rfl (.cons rfl .nil) rfl rfl rfl (nb rfl))) ?_
        refine AL.go (OpR.plain rfl (r_bin rfl rfl (nb rfl) rfl (run_str_add _ _ (by first | omega | (simp only [List.length_map, Int.toNat_natCast] at *; omega) | (simp only [ByteArray.size_append, sz1, sz2, sz4, sz6, sz7, sz10, Int.toNat_natCast] at *; omega))))) ?_
        refine AL.go (OpR.plain rfl (r_bin rfl rfl (nb rfl) rfl (run_str_add _ _ (by first | omega | (simp only [List.length_map, Int.toNat_natCast] at *; omega) | (simp only [ByteArray.size_append, sz1, sz2, sz4, sz6, sz7, sz10, Int.toNat_natCast] at *; omega))))) ?_
        refine AL.go (OpR.plain rfl (r_assign rfl (nb rfl) (by rintro _ ⟨⟩))) ?_
        refine AL.nil ?_
        refine inbN ?_
        refine thenN ?_
        refine AW.region ?_
        refine AL.go (OpR.plain rfl (r_add rfl rfl (nb rfl) (by first | omega | (simp only [List.length_map, Int.toNat_natCast] at *; omega) | (simp only [ByteArray.size_append, sz1, sz2, sz4, sz6, sz7, sz10, Int.toNat_natCast] at *; omega)) (by first | omega | (simp only [List.length_map, Int.toNat_natCast] at *; omega) | (simp only [ByteArray.size_append, sz1, sz2, sz4, sz6, sz7, sz10, Int.toNat_natCast] at *; omega)))) ?_
        refine AL.go (OpR.plain rfl (r_move rfl (nb rfl) (by rintro _ ⟨⟩))) ?_
        refine AL.nil ?_
        refine thenN ?_
        refine ⟨⟨i + 1, by omega⟩, by simp only; omega, weakens_id (.cons rfl (A.le_of_eq (by first | rfl | (simp [A.ren, C.ren, renOf, lk]; done) | (simp [A.ren, C.ren, renOf, lk]; omega) | omega)) (.cons rfl (A.le_of_eq (by first | rfl | (simp [A.ren, C.ren, renOf, lk]; done) | (simp [A.ren, C.ren, renOf, lk]; omega) | omega)) (.cons rfl (A.le_of_eq (by first | rfl | (simp [A.ren, C.ren, renOf, lk]; done) | (simp [A.ren, C.ren, renOf, lk]; omega) | omega)) (.cons rfl (A.le_of_eq (by first | rfl | (simp [A.ren, C.ren, renOf, lk]; done) | (simp [A.ren, C.ren, renOf, lk]; omega) | omega)) (.cons rfl (A.le_of_eq (by first | (exfalso; omega) | (rw [show headM q (i + 1) = headM q i ++ fromM (q.frm.getD i Fr.zero) i from by unfold headM; rw [fromsM]; simp only [bapp]]; unfold fromM; (try rw [joinW_else (by omega)]); (try simp only [A.ren, C.ren]); (first | rw [if_pos (show (q.frm.getD i Fr.zero).as_ = ⟨#[]⟩ by assumption)] | rw [if_neg (show ¬ (q.frm.getD i Fr.zero).as_ = ⟨#[]⟩ by assumption)]); (repeat (first | rw [if_pos (show 0 < i by omega)] | rw [if_neg (show ¬ 0 < i by omega)])); simp only [bapp, bnil, bnil0]; try rfl))) .nil))))) (.cons rfl (Ob.le_refl _) (.cons rfl (Ob.le_refl _) .nil)) rfl rfl rfl rfl⟩
      · have h3n := h3; try simp only [dtt, dff, bqi, bqf, bni, bnf, nt1, nf1, nt0, nf0, ne_eq, ilt, ile, rows_length, Int.toNat_natCast, List.length_map] at h3n
        refine AW.skip ?_
        refine inbN ?_
        refine thenN ?_
        refine AW.region ?_
        refine AL.go (OpR.plain rfl (r_add rfl rfl (nb rfl) (by first | omega | (simp only [List.length_map, Int.toNat_natCast] at *; omega) | (simp only [ByteArray.size_append, sz1, sz2, sz4, sz6, sz7, sz10, Int.toNat_natCast] at *; omega)) (by first | omega | (simp only [List.length_map, Int.toNat_natCast] at *; omega) | (simp only [ByteArray.size_append, sz1, sz2, sz4, sz6, sz7, sz10, Int.toNat_natCast] at *; omega)))) ?_
        refine AL.go (OpR.plain rfl (r_move rfl (nb rfl) (by rintro _ ⟨⟩))) ?_
        refine AL.nil ?_
        refine thenN ?_
        refine ⟨⟨i + 1, by omega⟩, by simp only; omega, weakens_id (.cons rfl (A.le_of_eq (by first | rfl | (simp [A.ren, C.ren, renOf, lk]; done) | (simp [A.ren, C.ren, renOf, lk]; omega) | omega)) (.cons rfl (A.le_of_eq (by first | rfl | (simp [A.ren, C.ren, renOf, lk]; done) | (simp [A.ren, C.ren, renOf, lk]; omega) | omega)) (.cons rfl (A.le_of_eq (by first | rfl | (simp [A.ren, C.ren, renOf, lk]; done) | (simp [A.ren, C.ren, renOf, lk]; omega) | omega)) (.cons rfl (A.le_of_eq (by first | rfl | (simp [A.ren, C.ren, renOf, lk]; done) | (simp [A.ren, C.ren, renOf, lk]; omega) | omega)) (.cons rfl (A.le_of_eq (by first | (exfalso; omega) | (rw [show headM q (i + 1) = headM q i ++ fromM (q.frm.getD i Fr.zero) i from by unfold headM; rw [fromsM]; simp only [bapp]]; unfold fromM; (try rw [joinW_else (by omega)]); (try simp only [A.ren, C.ren]); (first | rw [if_pos (show (q.frm.getD i Fr.zero).as_ = ⟨#[]⟩ by assumption)] | rw [if_neg (show ¬ (q.frm.getD i Fr.zero).as_ = ⟨#[]⟩ by assumption)]); (repeat (first | rw [if_pos (show 0 < i by omega)] | rw [if_neg (show ¬ 0 < i by omega)])); simp only [bapp, bnil, bnil0]; try rfl))) .nil))))) (.cons rfl (Ob.le_refl _) (.cons rfl (Ob.le_refl _) .nil)) rfl rfl rfl rfl⟩
    · have h2n := h2; try simp only [dtt, dff, bqi, bqf, bni, bnf, nt1, nf1, nt0, nf0, ne_eq, ilt, ile, rows_length, Int.toNat_natCast, List.length_map] at h2n
      refine AW.skip ?_
      refine thenN ?_
      refine AW.seq ?_
      refine AW.region ?_
      refine AL.go (OpR.plain rfl (r_move rfl (nb rfl) (by rintro _ ⟨⟩))) ?_
      refine AL.go (OpR.plain rfl (r_bin rfl rfl (nb rfl) rfl (run_int_gtr _ _ _))) ?_
      refine AL.nil ?_
      refine thenN ?_
      refine AW.condb rfl (fun h4 => ?_) (fun h4 => ?_)
      · have h4n := h4; try simp only [dtt, dff, bqi, bqf, bni, bnf, nt1, nf1, nt0, nf0, ne_eq, ilt, ile, rows_length, Int.toNat_natCast, List.length_map] at h4n
        refine AW.region ?_
        refine AL.go (OpR.plain rfl (r_move rfl (nb rfl) (by rintro _ ⟨⟩))) ?_
        first | refine AL.go (OpR.plain rfl (r_fieldAddr fo_57_3 (by decide) rfl (nb rfl))) ?_ | refine AL.go (OpR.plain rfl (r_fieldAddrp fo_57_3 (by decide) rfl (nb rfl))) ?_
        first | refine AL.go (OpR.plain rfl (r_load ti_27 rfl rfl (by simp only [loaded, mpc, mpn, if_true, ler, tks, tkz, tkn, dps, dpz, cap, nap, apn, lnc, lnn, zad, Nat.reduceAdd, adz]; rfl) (nb rfl))) ?_ | refine AL.go (OpR.plain rfl (r_loadp ti_27 rfl (by simp only [loaded, mpc, mpn, if_true, ler, tks, tkz, tkn, dps, dpz, cap, nap, apn, lnc, lnn, zad, Nat.reduceAdd, adz]; rfl) (nb rfl))) ?_
        refine AL.go (OpR.plain rfl (r_callId ((prs_all hF.1).1) en_9 rfl rfl rfl rfl (.cons (A.le_refl _) .nil) rfl (.cons rfl .nil) rfl rfl rfl (nb rfl))) ?_
        refine AL.go (OpR.plain rfl (r_bin rfl rfl (nb rfl) rfl (run_str_add _ _ (by first | omega | (simp only [List.length_map, Int.toNat_natCast] at *; omega) | (simp only [ByteArray.size_append, sz1, sz2, sz4, sz6, sz7, sz10, Int.toNat_natCast] at *; omega))))) ?_
        refine AL.go (OpR.plain rfl (r_bin rfl rfl (nb rfl) rfl (run_str_add _ _ (by first | omega | (simp only [List.length_map, Int.toNat_natCast] at *; omega) | (simp only [ByteArray.size_append, sz1, sz2, sz4, sz6, sz7, sz10, Int.toNat_natCast] at *; omega))))) ?_
        refine AL.go (OpR.plain rfl (r_assign rfl (nb rfl) (by rintro _ ⟨⟩))) ?_
        refine AL.nil ?_
        refine inbN ?_
        refine thenN ?_
        refine AW.region ?_
        refine AL.go (OpR.plain rfl (r_add rfl rfl (nb rfl) (by first | omega | (simp only [List.length_map, Int.toNat_natCast] at *; omega) | (simp only [ByteArray.size_append, sz1, sz2, sz4, sz6, sz7, sz10, Int.toNat_natCast] at *; omega)) (by first | omega | (simp only [List.length_map, Int.toNat_natCast] at *; omega) | (simp only [ByteArray.size_append, sz1, sz2, sz4, sz6, sz7, sz10, Int.toNat_natCast] at *; omega)))) ?_
        refine AL.go (OpR.plain rfl (r_move rfl (nb rfl) (by rintro _ ⟨⟩))) ?_
        refine AL.nil ?_
        refine thenN ?_
        refine ⟨⟨i + 1, by omega⟩, by simp only; omega, weakens_id (.cons rfl (A.le_of_eq (by first | rfl | (simp [A.ren, C.ren, renOf, lk]; done) | (simp [A.ren, C.ren, renOf, lk]; omega) | omega)) (.cons rfl (A.le_of_eq (by first | rfl | (simp [A.ren, C.ren, renOf, lk]; done) | (simp [A.ren, C.ren, renOf, lk]; omega) | omega)) (.cons rfl (A.le_of_eq (by first | rfl | (simp [A.ren, C.ren, renOf, lk]; done) | (simp [A.ren, C.ren, renOf, lk]; omega) | omega)) (.cons rfl (A.le_of_eq (by first | rfl | (simp [A.ren, C.ren, renOf, lk]; done) | (simp [A.ren, C.ren, renOf, lk]; omega) | omega)) (.cons rfl (A.le_of_eq (by first | (exfalso; omega) | (rw [show headM q (i + 1) = headM q i ++ fromM (q.frm.getD i Fr.zero) i from by unfold headM; rw [fromsM]; simp only [bapp]]; unfold fromM; (try rw [joinW_else (by omega)]); (try simp only [A.ren, C.ren]); (first | rw [if_pos (show (q.frm.getD i Fr.zero).as_ = ⟨#[]⟩ by assumption)] | rw [if_neg (show ¬ (q.frm.getD i Fr.zero).as_ = ⟨#[]⟩ by assumption)]); (repeat (first | rw [if_pos (show 0 < i by omega)] | rw [if_neg (show ¬ 0 < i by omega)])); simp only [bapp, bnil, bnil0]; try rfl))) .nil))))) (.cons rfl (Ob.le_refl _) (.cons rfl (Ob.le_refl _) .nil)) rfl rfl rfl rfl⟩
      · have h4n := h4; try simp only [dtt, dff, bqi, bqf, bni, bnf, nt1, nf1, nt0, nf0, ne_eq, ilt, ile, rows_length, Int.toNat_natCast, List.length_map] at h4n
        refine AW.skip ?_
        refine inbN ?_
        refine thenN ?_
        refine AW.region ?_
        refine AL.go (OpR.plain rfl (r_add rfl rfl (nb rfl) (by first | omega | (simp only [List.length_map, Int.toNat_natCast] at *; omega) | (simp only [ByteArray.size_append, sz1, sz2, sz4, sz6, sz7, sz10, Int.toNat_natCast] at *; omega)) (by first | omega | (simp only [List.length_map, Int.toNat_natCast] at *; omega) | (simp only [ByteArray.size_append, sz1, sz2, sz4, sz6, sz7, sz10, Int.toNat_natCast] at *; omega)))) ?_
        refine AL.go (OpR.plain rfl (r_move rfl (nb rfl) (by rintro _ ⟨⟩))) ?_
        refine AL.nil ?_
        refine thenN ?_
        refine ⟨⟨i + 1, by omega⟩, by simp only; omega, weakens_id (.cons rfl (A.le_of_eq (by first | rfl | (simp [A.ren, C.ren, renOf, lk]; done) | (simp [A.ren, C.ren, renOf, lk]; omega) | omega)) (.cons rfl (A.le_of_eq (by first | rfl | (simp [A.ren, C.ren, renOf, lk]; done) | (simp [A.ren, C.ren, renOf, lk]; omega) | omega)) (.cons rfl (A.le_of_eq (by first | rfl | (simp [A.ren, C.ren, renOf, lk]; done) | (simp [A.ren, C.ren, renOf, lk]; omega) | omega)) (.cons rfl (A.le_of_eq (by first | rfl | (simp [A.ren, C.ren, renOf, lk]; done) | (simp [A.ren, C.ren, renOf, lk]; omega) | omega)) (.cons rfl (A.le_of_eq (by first | (exfalso; omega) | (rw [show headM q (i + 1) = headM q i ++ fromM (q.frm.getD i Fr.zero) i from by unfold headM; rw [fromsM]; simp only [bapp]]; unfold fromM; (try rw [joinW_else (by omega)]); (try simp only [A.ren, C.ren]); (first | rw [if_pos (show (q.frm.getD i Fr.zero).as_ = ⟨#[]⟩ by assumption)] | rw [if_neg (show ¬ (q.frm.getD i Fr.zero).as_ = ⟨#[]⟩ by assumption)]); (repeat (first | rw [if_pos (show 0 < i by omega)] | rw [if_neg (show ¬ 0 < i by omega)])); simp only [bapp, bnil, bnil0]; try rfl))) .nil))))) (.cons rfl (Ob.le_refl _) (.cons rfl (Ob.le_refl _) .nil)) rfl rfl rfl rfl⟩
  · have h1n := h1; try simp only [dtt, dff, bqi, bqf, bni, bnf, nt1, nf1, nt0, nf0, ne_eq, ilt, ile, rows_length, Int.toNat_natCast, List.length_map] at h1n
    refine AW.exit ?_
    refine thenX ?_
    refine thenX ?_
    refine inbE ?_
    refine thenN ?_
    refine AW.seq ?_
    refine AW.seq ?_
    refine AW.region ?_
    first | refine AL.go (OpR.plain rfl (r_fieldAddr fo_37_2 (by decide) rfl (nb rfl))) ?_ | refine AL.go (OpR.plain rfl (r_fieldAddrp fo_37_2 (by decide) rfl (nb rfl))) ?_
    first | refine AL.go (OpR.plain rfl (r_fieldAddr fo_27_0 (by decide) rfl (nb rfl))) ?_ | refine AL.go (OpR.plain rfl (r_fieldAddrp fo_27_0 (by decide) rfl (nb rfl))) ?_
    first | refine AL.go (OpR.plain rfl (r_load ti_3 rfl rfl rfl (nb rfl))) ?_ | refine AL.go (OpR.plain rfl (r_loadp ti_3 rfl rfl (nb rfl))) ?_
    refine AL.go (OpR.plain rfl (r_bin rfl rfl (nb rfl) rfl (run_int_neq _ _ _))) ?_
    refine AL.nil ?_
    refine thenN ?_
    refine AW.condb rfl (fun h5 => ?_) (fun h5 => ?_)
    · have h5n := h5; try simp only [dtt, dff, bqi, bqf, bni, bnf, nt1, nf1, nt0, nf0, ne_eq, ilt, ile, rows_length, Int.toNat_natCast, List.length_map] at h5n
      refine AW.region ?_
      refine AL.go (OpR.plain rfl (r_move rfl (nb rfl) (by rintro _ ⟨⟩))) ?_
      first | refine AL.go (OpR.plain rfl (r_fieldAddr fo_37_2 (by decide) rfl (nb rfl))) ?_ | refine AL.go (OpR.plain rfl (r_fieldAddrp fo_37_2 (by decide) rfl (nb rfl))) ?_
      first | refine AL.go (OpR.plain rfl (r_load ti_27 rfl rfl (by simp only [loaded, mpc, mpn, if_true, ler, tks, tkz, tkn, dps, dpz, cap, nap, apn, lnc, lnn, zad, Nat.reduceAdd, adz]; rfl) (nb rfl))) ?_ | refine AL.go (OpR.plain rfl (r_loadp ti_27 rfl (by simp only [loaded, mpc, mpn, if_true, ler, tks, tkz, tkn, dps, dpz, cap, nap, apn, lnc, lnn, zad, Nat.reduceAdd, adz]; rfl) (nb rfl))) ?_
      refine AL.go (OpR.plain rfl (r_callId ((prs_all hQ.whr).1) en_9 rfl rfl rfl rfl (.cons (A.le_refl _) .nil) rfl (.cons rfl .nil) rfl rfl rfl (nb rfl))) ?_
      refine AL.go (OpR.plain rfl (r_bin rfl rfl (nb rfl) rfl (run_str_add _ _ (by first | omega | (simp only [List.length_map, Int.toNat_natCast] at *; omega) | (simp only [ByteArray.size_append, sz1, sz2, sz4, sz6, sz7, sz10, Int.toNat_natCast] at *; omega))))) ?_
      refine AL.go (OpR.plain rfl (r_bin rfl rfl (nb rfl) rfl (run_str_add _ _ (by first | omega | (simp only [List.length_map, Int.toNat_natCast] at *; omega) | (simp only [ByteArray.size_append, sz1, sz2, sz4, sz6, sz7, sz10, Int.toNat_natCast] at *; omega))))) ?_
      refine AL.go (OpR.plain rfl (r_assign rfl (nb rfl) (by rintro _ ⟨⟩))) ?_
      refine AL.nil ?_
      refine thenN ?_
      refine AW.seq ?_
      refine AW.seq ?_
      refine AW.region ?_
      first | refine AL.go (OpR.plain rfl (r_fieldAddr fo_37_3 (by decide) rfl (nb rfl))) ?_ | refine AL.go (OpR.plain rfl (r_fieldAddrp fo_37_3 (by decide) rfl (nb rfl))) ?_
      first | refine AL.go (OpR.plain rfl (r_load ti_25 rfl rfl rfl (nb rfl))) ?_ | refine AL.go (OpR.plain rfl (r_loadp ti_25 rfl rfl (nb rfl))) ?_
      refine AL.go (OpR.plain rfl (r_len un_25 rfl (by first | exact .sl | exact .own | exact .row | exact .nil) (by intro _ h; cases h) (nb rfl) (by rintro _ ⟨⟩))) ?_
      refine AL.go (OpR.plain rfl (r_bin rfl rfl (nb rfl) rfl (run_int_gtr _ _ _))) ?_
      refine AL.nil ?_
      refine thenN ?_
      refine AW.condb rfl (fun h6 => ?_) (fun h6 => ?_)
      · have h6n := h6; try simp only [dtt, dff, bqi, bqf, bni, bnf, nt1, nf1, nt0, nf0, ne_eq, ilt, ile, rows_length, Int.toNat_natCast, List.length_map] at h6n
        refine AW.region ?_
        refine AL.go (OpR.plain rfl (r_move rfl (nb rfl) (by rintro _ ⟨⟩))) ?_
        first | refine AL.go (OpR.plain rfl (r_fieldAddr fo_37_3 (by decide) rfl (nb rfl))) ?_ | refine AL.go (OpR.plain rfl (r_fieldAddrp fo_37_3 (by decide) rfl (nb rfl))) ?_
        first | refine AL.go (OpR.plain rfl (r_load ti_25 rfl rfl rfl (nb rfl))) ?_ | refine AL.go (OpR.plain rfl (r_loadp ti_25 rfl rfl (nb rfl))) ?_
        refine AL.go (OpR.plain rfl (r_callId (list_p q.group hQ.gl (fun x hx => (prs_all (hQ.group x hx)).1) hQ.groupS) en_31 rfl rfl rfl rfl (.cons (A.le_refl _) .nil) rfl (.cons rfl .nil) rfl rfl rfl (nb rfl))) ?_
        refine AL.go (OpR.plain rfl (r_bin rfl rfl (nb rfl) rfl (run_str_add _ _ (by first | omega | (simp only [List.length_map, Int.toNat_natCast] at *; omega) | (simp only [ByteArray.size_append, sz1, sz2, sz4, sz6, sz7, sz10, Int.toNat_natCast] at *; omega))))) ?_
        refine AL.go (OpR.plain rfl (r_bin rfl rfl (nb rfl) rfl (run_str_add _ _ (by first | omega | (simp only [List.length_map, Int.toNat_natCast] at *; omega) | (simp only [ByteArray.size_append, sz1, sz2, sz4, sz6, sz7, sz10, Int.toNat_natCast] at *; omega))))) ?_
        refine AL.go (OpR.plain rfl (r_assign rfl (nb rfl) (by rintro _ ⟨⟩))) ?_
        refine AL.nil ?_
        refine thenN ?_
        refine AW.seq ?_
        refine AW.region ?_
        refine AL.go (OpR.plain rfl (r_move rfl (nb rfl) (by rintro _ ⟨⟩))) ?_
        refine AL.go (OpR.plain rfl (r_assign rfl (nb rfl) (by rintro _ ⟨⟩))) ?_
        refine AL.nil ?_
        refine thenN ?_
        refine AW.ret ?_
        refine fin_id (.inr rfl) (ends_of rfl (.tmp rfl .nil)) ?_ (.cons rfl (Ob.le_refl _) .nil) rfl rfl rfl rfl
        simp only [retA]
        refine A.le_of_eq ?_
        have e : i = q.frm.length := by omega
        subst e
        unfold queryM
        first | rw [if_pos (show q.whr.op ≠ 0 by first | assumption | omega)] | rw [if_neg (show ¬ q.whr.op ≠ 0 by first | assumption | omega)]
        first | rw [if_pos (List.eq_nil_of_length_eq_zero (by omega))] | rw [if_neg (by intro hh; have := congrArg List.length hh; simp only [lnn] at this; omega)]
        try simp only [bapp, bnil, bnil0]
      · have h6n := h6; try simp only [dtt, dff, bqi, bqf, bni, bnf, nt1, nf1, nt0, nf0, ne_eq, ilt, ile, rows_length, Int.toNat_natCast, List.length_map] at h6n
        refine AW.skip ?_
        refine thenN ?_
        refine AW.seq ?_
        refine AW.region ?_
        refine AL.go (OpR.plain rfl (r_move rfl (nb rfl) (by rintro _ ⟨⟩))) ?_
        refine AL.go (OpR.plain rfl (r_assign rfl (nb rfl) (by rintro _ ⟨⟩))) ?_
        refine AL.nil ?_
        refine thenN ?_
        refine AW.ret ?_
        refine fin_id (.inr rfl) (ends_of rfl (.tmp rfl .nil)) ?_ (.cons rfl (Ob.le_refl _) .nil) rfl rfl rfl rfl
        simp only [retA]
        refine A.le_of_eq ?_
        have e : i = q.frm.length := by omega
        subst e
        unfold queryM
        first | rw [if_pos (show q.whr.op ≠ 0 by first | assumption | omega)] | rw [if_neg (show ¬ q.whr.op ≠ 0 by first | assumption | omega)]
        first | rw [if_pos (List.eq_nil_of_length_eq_zero (by omega))] | rw [if_neg (by intro hh; have := congrArg List.length hh; simp only [lnn] at this; omega)]
        try simp only [bapp, bnil, bnil0]
    · have h5n := h5; try simp only [dtt, dff, bqi, bqf, bni, bnf, nt1, nf1, nt0, nf0, ne_eq, ilt, ile, rows_length, Int.toNat_natCast, List.length_map] at h5n
      refine AW.skip ?_
      refine thenN ?_
      refine AW.seq ?_
      refine AW.seq ?_
      refine AW.region ?_
      first | refine AL.go (OpR.plain rfl (r_fieldAddr fo_37_3 (by decide) rfl (nb rfl))) ?_ | refine AL.go (OpR.plain rfl (r_fieldAddrp fo_37_3 (by decide) rfl (nb rfl))) ?_
      first | refine AL.go (OpR.plain rfl (r_load ti_25 rfl rfl rfl (nb rfl))) ?_ | refine AL.go (OpR.plain rfl (r_loadp ti_25 rfl rfl (nb rfl))) ?_
      refine AL.go (OpR.plain rfl (r_len un_25 rfl (by first | exact .sl | exact .own | exact .row | exact .nil) (by intro _ h; cases h) (nb rfl) (by rintro _ ⟨⟩))) ?_
      refine AL.go (OpR.plain rfl (r_bin rfl rfl (nb rfl) rfl (run_int_gtr _ _ _))) ?_
      refine AL.nil ?_
      refine thenN ?_
      refine AW.condb rfl (fun h7 => ?_) (fun h7 => ?_)
      · have h7n := h7; try simp only [dtt, dff, bqi, bqf, bni, bnf, nt1, nf1, nt0, nf0, ne_eq, ilt, ile, rows_length, Int.toNat_natCast, List.length_map] at h7n
        refine AW.region ?_
        refine AL.go (OpR.plain rfl (r_move rfl (nb rfl) (by rintro _ ⟨⟩))) ?_
        first | refine AL.go (OpR.plain rfl (r_fieldAddr fo_37_3 (by decide) rfl (nb rfl))) ?_ | refine AL.go (OpR.plain rfl (r_fieldAddrp fo_37_3 (by decide) rfl (nb rfl))) ?_
        first | refine AL.go (OpR.plain rfl (r_load ti_25 rfl rfl rfl (nb rfl))) ?_ | refine AL.go (OpR.plain rfl (r_loadp ti_25 rfl rfl (nb rfl))) ?_
        refine AL.go (OpR.plain rfl (r_callId (list_p q.group hQ.gl (fun x hx => (prs_all (hQ.group x hx)).1) hQ.groupS) en_31 rfl rfl rfl rfl (.cons (A.le_refl _) .nil) rfl (.cons rfl .nil) rfl rfl rfl (nb rfl))) ?_
        refine AL.go (OpR.plain rfl (r_bin rfl rfl (nb rfl) rfl (run_str_add _ _ (by first | omega | (simp only [List.length_map, Int.toNat_natCast] at *; omega) | (simp only [ByteArray.size_append, sz1, sz2, sz4, sz6, sz7, sz10, Int.toNat_natCast] at *; omega))))) ?_
        refine AL.go (OpR.plain rfl (r_bin rfl rfl (nb rfl) rfl (run_str_add _ _ (by first | omega | (simp only [List.length_map, Int.toNat_natCast] at *; omega) | (simp only [ByteArray.size_append, sz1, sz2, sz4, sz6, sz7, sz10, Int.toNat_natCast] at *; omega))))) ?_
        refine AL.go (OpR.plain rfl (r_assign rfl (nb rfl) (by rintro _ ⟨⟩))) ?_
        refine AL.nil ?_
        refine thenN ?_
        refine AW.seq ?_
        refine AW.region ?_
        refine AL.go (OpR.plain rfl (r_move rfl (nb rfl) (by rintro _ ⟨⟩))) ?_
        refine AL.go (OpR.plain rfl (r_assign rfl (nb rfl) (by rintro _ ⟨⟩))) ?_
        refine AL.nil ?_
        refine thenN ?_
        refine AW.ret ?_
        refine fin_id (.inr rfl) (ends_of rfl (.tmp rfl .nil)) ?_ (.cons rfl (Ob.le_refl _) .nil) rfl rfl rfl rfl
        simp only [retA]
        refine A.le_of_eq ?_
        have e : i = q.frm.length := by omega
        subst e
        unfold queryM
        first | rw [if_pos (show q.whr.op ≠ 0 by first | assumption | omega)] | rw [if_neg (show ¬ q.whr.op ≠ 0 by first | assumption | omega)]
        first | rw [if_pos (List.eq_nil_of_length_eq_zero (by omega))] | rw [if_neg (by intro hh; have := congrArg List.length hh; simp only [lnn] at this; omega)]
        try simp only [bapp, bnil, bnil0]
      · have h7n := h7; try simp only [dtt, dff, bqi, bqf, bni, bnf, nt1, nf1, nt0, nf0, ne_eq, ilt, ile, rows_length, Int.toNat_natCast, List.length_map] at h7n
        refine AW.skip ?_
        refine thenN ?_
        refine AW.seq ?_
        refine AW.region ?_
        refine AL.go (OpR.plain rfl (r_move rfl (nb rfl) (by rintro _ ⟨⟩))) ?_
        refine AL.go (OpR.plain rfl (r_assign rfl (nb rfl) (by rintro _ ⟨⟩))) ?_
        refine AL.nil ?_
        refine thenN ?_
        refine AW.ret ?_
        refine fin_id (.inr rfl) (ends_of rfl (.tmp rfl .nil)) ?_ (.cons rfl (Ob.le_refl _) .nil) rfl rfl rfl rfl
        simp only [retA]
        refine A.le_of_eq ?_
        have e : i = q.frm.length := by omega
        subst e
        unfold queryM
        first | rw [if_pos (show q.whr.op ≠ 0 by first | assumption | omega)] | rw [if_neg (show ¬ q.whr.op ≠ 0 by first | assumption | omega)]
        first | rw [if_pos (List.eq_nil_of_length_eq_zero (by omega))] | rw [if_neg (by intro hh; have := congrArg List.length hh; simp only [lnn] at this; omega)]
        try simp only [bapp, bnil, bnil0]

end Go.Par
