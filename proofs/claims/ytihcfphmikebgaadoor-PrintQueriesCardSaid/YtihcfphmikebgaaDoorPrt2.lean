import Derived.Test.YtihcfphmikebgaaDoorProg
import Derived.Test.YtihcfphmikebgaaDoorAm15
namespace Go.Par
open Go Go.Am Go.Proofs Go.RowKit
set_option linter.unusedVariables false
set_option linter.unusedSimpArgs false

theorem mixed : Tryd.prog.follows .mixedOrders = true := by kernel_rfl
def isBlank (c : Int) : Bool := c == 32 || c == 9 || c == 10 || c == 13
def isLetter (c : Int) : Bool := decide (97 ≤ c) && decide (c ≤ 122) || c == 95
def isDigit (c : Int) : Bool := decide (48 ≤ c) && decide (c ≤ 57)
structure Tok where
  kind : Int
  text : ByteArray
  num : Int
  at_ : Int
abbrev Tok.row (t : Tok) : List D := [.v (.int .i64 t.kind), .v (.string t.text), .v (.int .i64 t.num), .v (.int .i64 t.at_)]
abbrev Tok.zero : Tok := ⟨0, { data := #[] }, 0, 0⟩
abbrev tokA (t : Tok) : A := .agg [.d (.v (.int .i64 t.kind)), .d (.v (.string t.text)), .d (.v (.int .i64 t.num)), .d (.v (.int .i64 t.at_))]
structure Pst where
  l : List Tok
  at_ : Nat
  deep : Nat
  e : Int
abbrev tokRows (l : List Tok) : D := .sl false (l.map Tok.row)
abbrev pbox (p : Pst) : Ob := .box [.d (tokRows p.l), .d (.v (.int .i64 p.at_)), .d (.v (.int .i64 p.deep)), .d (.v (.int .i64 p.e))]
theorem tok_len {l : List Tok} : ∀ r ∈ l.map Tok.row, r.length = 4 := by
  intro r hr
  simp only [List.mem_map] at hr
  obtain ⟨t, _, rfl⟩ := hr
  rfl
theorem tok_at {l : List Tok} {j : Int} (h0 : 0 ≤ j) (h : j < l.length) : (l.map Tok.row)[j.toNat]? = some (l.getD j.toNat Tok.zero).row := by
  have : j.toNat < l.length := by omega
  simp [List.getD_eq_getElem?_getD, this]
/-- The parser's own state stands where it may. -/
structure Pst.Ok (p : Pst) : Prop where
  at_ : p.at_ ≤ p.l.length
  len : p.l.length ≤ 1000
  deep : p.deep ≤ 1000
  text : ∀ t ∈ p.l, t.kind = 4 → t.text.size ≤ 65536
def Pst.fail (p : Pst) (e : Int) : Pst := if p.e = 0 then { p with e := e } else p
def Pst.tok (p : Pst) : Tok := if p.e = 0 ∧ p.at_ < p.l.length then p.l.getD p.at_ Tok.zero else Tok.zero
def Pst.is (p : Pst) (s : ByteArray) : Bool := p.e == 0 && (p.tok.kind == 2 || p.tok.kind == 5) && decide (p.tok.text = s)
def Pst.step (p : Pst) : Pst := { p with at_ := p.at_ + 1 }
def Pst.take (p : Pst) (s : ByteArray) : Pst := if p.is s then p.step else p
def Pst.must (p : Pst) (s : ByteArray) : Pst := if p.is s then p.step else p.fail 1
def Pst.down (p : Pst) : Pst := let q := { p with deep := p.deep + 1 }; if q.deep > 50 then q.fail 4 else q
def Pst.up (p : Pst) : Pst := { p with deep := p.deep - 1 }
theorem Pst.is_lt {p : Pst} {s : ByteArray} (h : p.is s = true) : p.at_ < p.l.length := by
  simp only [Pst.is, Bool.and_eq_true, Bool.or_eq_true, bqi] at h
  unfold Pst.tok at h
  split at h
  · rename_i h'; exact h'.2
  · simp [Tok.zero] at h

structure Val where
  kind : Int
  i : Int
  s : ByteArray
inductive Ex where
  | mk (op : Int) (tab name : ByteArray) (t c : Int) (val : Val) (l : List Ex)
mutual
def Ex.row : Ex → List D
  | .mk op tab name t c val l => [.v (.int .i64 op), .v (.string tab), .v (.string name), .v (.int .i64 t), .v (.int .i64 c), .v (.int .i64 val.kind), .v (.int .i64 val.i), .v (.string val.s), .sl false (Ex.rows l)]
def Ex.rows : List Ex → List (List D)
  | [] => []
  | e :: l => e.row :: Ex.rows l
end
def Ex.op : Ex → Int | .mk op _ _ _ _ _ _ => op
def Ex.tab : Ex → ByteArray | .mk _ tab _ _ _ _ _ => tab
def Ex.name : Ex → ByteArray | .mk _ _ name _ _ _ _ => name
def Ex.t : Ex → Int | .mk _ _ _ t _ _ _ => t
def Ex.c : Ex → Int | .mk _ _ _ _ c _ _ => c
def Ex.val : Ex → Val | .mk _ _ _ _ _ v _ => v
def Ex.l : Ex → List Ex | .mk _ _ _ _ _ _ l => l
theorem Ex.row_eq (e : Ex) : e.row = [.v (.int .i64 e.op), .v (.string e.tab), .v (.string e.name), .v (.int .i64 e.t), .v (.int .i64 e.c), .v (.int .i64 e.val.kind), .v (.int .i64 e.val.i), .v (.string e.val.s), .sl false (Ex.rows e.l)] := by
  cases e; rfl
abbrev exA (e : Ex) : A := .agg [.d (.v (.int .i64 e.op)), .d (.v (.string e.tab)), .d (.v (.string e.name)), .d (.v (.int .i64 e.t)), .d (.v (.int .i64 e.c)), .d (.v (.int .i64 e.val.kind)), .d (.v (.int .i64 e.val.i)), .d (.v (.string e.val.s)), .d (.sl false (Ex.rows e.l))]
abbrev valA (v : Val) : A := .agg [.d (.v (.int .i64 v.kind)), .d (.v (.int .i64 v.i)), .d (.v (.string v.s))]
abbrev bs0 : ByteArray := { data := #[] }
abbrev Val.null : Val := ⟨0, 0, bs0⟩
abbrev exVal (v : Val) : Ex := .mk 16 bs0 bs0 0 0 v []
abbrev exCol (tab name : ByteArray) : Ex := .mk 15 tab name 0 0 Val.null []
abbrev exOf (op : Int) (l : List Ex) : Ex := .mk op bs0 bs0 0 0 Val.null l
theorem rows_len : ∀ {l : List Ex}, ∀ r ∈ Ex.rows l, r.length = 9
  | [], r, h => by simp [Ex.rows] at h
  | .mk .. :: l, r, h => by
    simp only [Ex.rows, List.mem_cons] at h
    rcases h with rfl | h
    · rfl
    · exact rows_len r h
theorem rows_length : ∀ {l : List Ex}, (Ex.rows l).length = l.length
  | [] => rfl
  | _ :: l => by simp [Ex.rows, rows_length (l := l)]
def Pst.name (p : Pst) : ByteArray × Pst := if p.tok.kind = 1 then (p.tok.text, p.step) else (bs0, p.fail 1)
theorem Pst.tok_lt {p : Pst} (h : p.tok.kind ≠ 0) : p.at_ < p.l.length := by
  unfold Pst.tok at h
  split at h
  · rename_i h'; exact h'.2
  · simp [Tok.zero] at h
def opOf (s : ByteArray) : Int := if s = ⟨#[111, 114]⟩ then 11 else if s = ⟨#[97, 110, 100]⟩ then 10 else if s = ⟨#[43]⟩ then 7 else if s = ⟨#[45]⟩ then 8 else if s = ⟨#[42]⟩ then 9 else if s = ⟨#[61]⟩ then 1
  else if s = ⟨#[60, 62]⟩ then 2 else if s = ⟨#[60]⟩ then 3 else if s = ⟨#[60, 61]⟩ then 4 else if s = ⟨#[62]⟩ then 5 else if s = ⟨#[62, 61]⟩ then 6 else 0
def joinOf (s : ByteArray) : Int := if s = ⟨#[106, 111, 105, 110]⟩ then 1 else if s = ⟨#[108, 101, 102, 116]⟩ then 2 else if s = ⟨#[115, 101, 109, 105]⟩ then 3 else if s = ⟨#[97, 110, 116, 105]⟩ then 4 else 0
/-- The document's own state: the same without the depth. -/
abbrev atA (p : Pst) : A := .agg [.d (tokRows p.l), .d (.v (.int .i64 p.at_)), .d (.v (.int .i64 p.e))]
def Pst.kindR (p : Pst) : Int := if p.e = 0 ∧ p.at_ < p.l.length then (p.l.getD p.at_ Tok.zero).kind else -1
theorem Pst.kindR_lt {p : Pst} (h : p.kindR ≠ -1) : p.e = 0 ∧ p.at_ < p.l.length := by
  unfold Pst.kindR at h
  split at h
  · assumption
  · exact absurd rfl h
theorem Pst.kind1 (p : Pst) : p.kindR = 1 ↔ p.tok.kind = 1 := by
  unfold Pst.kindR Pst.tok
  split <;> simp [Tok.zero]
theorem Pst.tokR {p : Pst} (h : p.kindR ≠ -1) : p.l[p.at_]?.getD Tok.zero = p.tok := by
  unfold Pst.tok
  rw [if_pos (Pst.kindR_lt h), List.getD_eq_getElem?_getD]

theorem en_25 : enters Tryd.prog 25 = true := by kernel_rfl
theorem en_42 : enters Tryd.prog 42 = true := by kernel_rfl
theorem en_48 : enters Tryd.prog 48 = true := by kernel_rfl
theorem en_49 : enters Tryd.prog 49 = true := by kernel_rfl
theorem en_58 : enters Tryd.prog 58 = true := by kernel_rfl
theorem fo_52_0 : fieldOf Tryd.prog 52 0 = some (0, 1, false) := by kernel_rfl
theorem fo_52_1 : fieldOf Tryd.prog 52 1 = some (1, 1, false) := by kernel_rfl
theorem fo_52_2 : fieldOf Tryd.prog 52 2 = some (2, 1, false) := by kernel_rfl
theorem fo_52_3 : fieldOf Tryd.prog 52 3 = some (3, 1, false) := by kernel_rfl
theorem fo_71_0 : fieldOf Tryd.prog 71 0 = some (0, 1, false) := by kernel_rfl
theorem fo_71_1 : fieldOf Tryd.prog 71 1 = some (1, 1, false) := by kernel_rfl
theorem pl_24 : placesOf Tryd.prog 24 = some ([(0, 1), (1, 1), (2, 1)], Value.agg (List.toArray [Value.int IntKind.i64 0, Value.int IntKind.i64 0, Value.string { data := #[] }])) := by kernel_rfl
theorem pl_27 : placesOf Tryd.prog 27 = some ([(0, 1), (1, 1), (2, 1), (3, 1), (4, 1), (5, 3), (8, 1)], Value.agg (List.toArray [Value.int IntKind.i64 0, Value.string { data := #[] }, Value.string { data := #[] }, Value.int IntKind.i64 0, Value.int IntKind.i64 0, Value.int IntKind.i64 0, Value.int IntKind.i64 0, Value.string { data := #[] }, Value.slice none 0 0])) := by kernel_rfl
theorem pl_71 : placesOf Tryd.prog 71 = some ([(0, 1), (1, 1), (2, 1), (3, 1)], Value.agg (List.toArray [Value.int IntKind.i64 0, Value.string { data := #[] }, Value.int IntKind.i64 0, Value.int IntKind.i64 0])) := by kernel_rfl
theorem ti_24 : tinf Tryd.prog 24 = some (3, 32, true, some (Value.agg (List.toArray [Value.int IntKind.i64 0, Value.int IntKind.i64 0, Value.string { data := #[] }]))) := by kernel_rfl
theorem ti_27 : tinf Tryd.prog 27 = some (9, 112, true, some (Value.agg (List.toArray [Value.int IntKind.i64 0, Value.string { data := #[] }, Value.string { data := #[] }, Value.int IntKind.i64 0, Value.int IntKind.i64 0, Value.int IntKind.i64 0, Value.int IntKind.i64 0, Value.string { data := #[] }, Value.slice none 0 0]))) := by kernel_rfl
theorem ti_28 : tinf Tryd.prog 28 = some (1, 8, false, some (Value.int IntKind.i64 0)) := by kernel_rfl
theorem ti_3 : tinf Tryd.prog 3 = some (1, 8, false, some (Value.int IntKind.i64 0)) := by kernel_rfl
theorem ti_50 : tinf Tryd.prog 50 = some (1, 24, false, some (Value.slice none 0 0)) := by kernel_rfl
theorem ti_71 : tinf Tryd.prog 71 = some (4, 40, true, some (Value.agg (List.toArray [Value.int IntKind.i64 0, Value.string { data := #[] }, Value.int IntKind.i64 0, Value.int IntKind.i64 0]))) := by kernel_rfl
theorem ti_9 : tinf Tryd.prog 9 = some (1, 16, false, some (Value.string { data := #[] })) := by kernel_rfl
theorem un_50 : Tryd.prog.underlying 50 = some (TypeDesc.slice 71) := by kernel_rfl
theorem un_9 : Tryd.prog.underlying 9 = some TypeDesc.string := by kernel_rfl
theorem zc_24 : plainCells (Value.agg (List.toArray [Value.int IntKind.i64 0, Value.int IntKind.i64 0, Value.string { data := #[] }])) = [.d (.v (Value.int IntKind.i64 0)), .d (.v (Value.int IntKind.i64 0)), .d (.v (Value.string { data := #[] }))] := rfl
theorem zc_27 : plainCells (Value.agg (List.toArray [Value.int IntKind.i64 0, Value.string { data := #[] }, Value.string { data := #[] }, Value.int IntKind.i64 0, Value.int IntKind.i64 0, Value.int IntKind.i64 0, Value.int IntKind.i64 0, Value.string { data := #[] }, Value.slice none 0 0])) = [.d (.v (Value.int IntKind.i64 0)), .d (.v (Value.string { data := #[] })), .d (.v (Value.string { data := #[] })), .d (.v (Value.int IntKind.i64 0)), .d (.v (Value.int IntKind.i64 0)), .d (.v (Value.int IntKind.i64 0)), .d (.v (Value.int IntKind.i64 0)), .d (.v (Value.string { data := #[] })), .d (.v (Value.slice none 0 0))] := rfl
theorem zc_71 : plainCells (Value.agg (List.toArray [Value.int IntKind.i64 0, Value.string { data := #[] }, Value.int IntKind.i64 0, Value.int IntKind.i64 0])) = [.d (.v (Value.int IntKind.i64 0)), .d (.v (Value.string { data := #[] })), .d (.v (Value.int IntKind.i64 0)), .d (.v (Value.int IntKind.i64 0))] := rfl


theorem blank_s (c : Int) : Am.Spec Tryd.prog 69 [A.val (.int .u8 c)] [] (A.bool (isBlank c)) [] := by
  refine spec_ofN (n := 17) Tryd.func69 rfl rfl (nb rfl) ?_
  show AW _ _ (⟨[(0, A.val (.int .u8 c))], [], []⟩ : St) _
  refine AW.seq ?_
  refine AW.region ?_
  refine AL.go (OpR.plain rfl (r_assign rfl (nb rfl) (by rintro _ ⟨⟩; rfl))) ?_
  refine AL.nil ?_
  refine thenN ?_
  refine AW.seq ?_
  refine AW.region ?_
  refine AL.go (OpR.plain rfl (r_move rfl (nb rfl) (by rintro _ ⟨⟩))) ?_
  refine AL.go (OpR.plain rfl (r_bin rfl rfl (nb rfl) rfl (run_int_eql _ _ _))) ?_
  refine AL.go (OpR.plain rfl (r_move rfl (nb rfl) (by rintro _ ⟨⟩))) ?_
  refine AL.ifb (t := 5) rfl (fun h1 => ?_) (fun h1 => ?_)
  · have h1n := h1; try simp only [dtt, dff, bqi, bqf, bni, bnf, nt1, nf1, nt0, nf0, ne_eq, ilt, ile] at h1n
    refine AL.go (.off rfl rfl (nb rfl) rfl (by rw [h1]; decide) rfl (nb rfl)) ?_
    refine AL.go (.off rfl rfl (nb rfl) rfl (by rw [h1]; decide) rfl (nb rfl)) ?_
    refine AL.go (OpR.plain rfl (r_pickTb rfl (h1) rfl (nb rfl) (by rintro _ ⟨⟩; rfl))) ?_
    refine AL.go (OpR.plain rfl (r_move rfl (nb rfl) (by rintro _ ⟨⟩))) ?_
    refine AL.go (.off rfl rfl (nb rfl) rfl (by decide) rfl (nb rfl)) ?_
    refine AL.go (.off rfl rfl (nb rfl) rfl (by decide) rfl (nb rfl)) ?_
    refine AL.go (OpR.plain rfl (r_pickTb rfl (rfl) rfl (nb rfl) (by rintro _ ⟨⟩; rfl))) ?_
    refine AL.go (OpR.plain rfl (r_move rfl (nb rfl) (by rintro _ ⟨⟩))) ?_
    refine AL.go (.off rfl rfl (nb rfl) rfl (by decide) rfl (nb rfl)) ?_
    refine AL.go (.off rfl rfl (nb rfl) rfl (by decide) rfl (nb rfl)) ?_
    refine AL.go (OpR.plain rfl (r_pickTb rfl (rfl) rfl (nb rfl) (by rintro _ ⟨⟩; rfl))) ?_
    refine AL.go (OpR.plain rfl (r_assign rfl (nb rfl) (by rintro _ ⟨⟩))) ?_
    refine AL.nil ?_
    refine thenN ?_
    refine AW.ret ?_
    refine fin_id (.inr rfl) (ends_of rfl (.tmp rfl .nil)) ?_ .nil rfl rfl rfl rfl
    simp only [retA]
    refine A.le_of_eq ?_
    first | (simp_all [isBlank]; done) | (simp_all [isBlank]; omega)
  · have h1n := h1; try simp only [dtt, dff, bqi, bqf, bni, bnf, nt1, nf1, nt0, nf0, ne_eq, ilt, ile] at h1n
    refine AL.go (OpR.onb rfl rfl (nb rfl) rfl (h1) (r_move rfl (nb rfl) (by rintro _ ⟨⟩))) ?_
    refine AL.go (OpR.onb rfl rfl (nb rfl) rfl (h1) (r_bin rfl rfl (nb rfl) rfl (run_int_eql _ _ _))) ?_
    refine AL.go (OpR.plain rfl (r_pickFb rfl (h1) rfl (nb rfl) (by rintro _ ⟨⟩))) ?_
    refine AL.go (OpR.plain rfl (r_move rfl (nb rfl) (by rintro _ ⟨⟩))) ?_
    refine AL.ifb (t := 9) rfl (fun h2 => ?_) (fun h2 => ?_)
    · have h2n := h2; try simp only [dtt, dff, bqi, bqf, bni, bnf, nt1, nf1, nt0, nf0, ne_eq, ilt, ile] at h2n
      refine AL.go (.off rfl rfl (nb rfl) rfl (by rw [h2]; decide) rfl (nb rfl)) ?_
      refine AL.go (.off rfl rfl (nb rfl) rfl (by rw [h2]; decide) rfl (nb rfl)) ?_
      refine AL.go (OpR.plain rfl (r_pickTb rfl (h2) rfl (nb rfl) (by rintro _ ⟨⟩; rfl))) ?_
      refine AL.go (OpR.plain rfl (r_move rfl (nb rfl) (by rintro _ ⟨⟩))) ?_
      refine AL.go (.off rfl rfl (nb rfl) rfl (by decide) rfl (nb rfl)) ?_
      refine AL.go (.off rfl rfl (nb rfl) rfl (by decide) rfl (nb rfl)) ?_
      refine AL.go (OpR.plain rfl (r_pickTb rfl (rfl) rfl (nb rfl) (by rintro _ ⟨⟩; rfl))) ?_
      refine AL.go (OpR.plain rfl (r_assign rfl (nb rfl) (by rintro _ ⟨⟩))) ?_
      refine AL.nil ?_
      refine thenN ?_
      refine AW.ret ?_
      refine fin_id (.inr rfl) (ends_of rfl (.tmp rfl .nil)) ?_ .nil rfl rfl rfl rfl
      simp only [retA]
      refine A.le_of_eq ?_
      first | (simp_all [isBlank]; done) | (simp_all [isBlank]; omega)
    · have h2n := h2; try simp only [dtt, dff, bqi, bqf, bni, bnf, nt1, nf1, nt0, nf0, ne_eq, ilt, ile] at h2n
      refine AL.go (OpR.onb rfl rfl (nb rfl) rfl (h2) (r_move rfl (nb rfl) (by rintro _ ⟨⟩))) ?_
      refine AL.go (OpR.onb rfl rfl (nb rfl) rfl (h2) (r_bin rfl rfl (nb rfl) rfl (run_int_eql _ _ _))) ?_
      refine AL.go (OpR.plain rfl (r_pickFb rfl (h2) rfl (nb rfl) (by rintro _ ⟨⟩))) ?_
      refine AL.go (OpR.plain rfl (r_move rfl (nb rfl) (by rintro _ ⟨⟩))) ?_
      refine AL.ifb (t := 13) rfl (fun h3 => ?_) (fun h3 => ?_)
      · have h3n := h3; try simp only [dtt, dff, bqi, bqf, bni, bnf, nt1, nf1, nt0, nf0, ne_eq, ilt, ile] at h3n
        refine AL.go (.off rfl rfl (nb rfl) rfl (by rw [h3]; decide) rfl (nb rfl)) ?_
        refine AL.go (.off rfl rfl (nb rfl) rfl (by rw [h3]; decide) rfl (nb rfl)) ?_
        refine AL.go (OpR.plain rfl (r_pickTb rfl (h3) rfl (nb rfl) (by rintro _ ⟨⟩; rfl))) ?_
        refine AL.go (OpR.plain rfl (r_assign rfl (nb rfl) (by rintro _ ⟨⟩))) ?_
        refine AL.nil ?_
        refine thenN ?_
        refine AW.ret ?_
        refine fin_id (.inr rfl) (ends_of rfl (.tmp rfl .nil)) ?_ .nil rfl rfl rfl rfl
        simp only [retA]
        refine A.le_of_eq ?_
        first | (simp_all [isBlank]; done) | (simp_all [isBlank]; omega)
      · have h3n := h3; try simp only [dtt, dff, bqi, bqf, bni, bnf, nt1, nf1, nt0, nf0, ne_eq, ilt, ile] at h3n
        refine AL.go (OpR.onb rfl rfl (nb rfl) rfl (h3) (r_move rfl (nb rfl) (by rintro _ ⟨⟩))) ?_
        refine AL.go (OpR.onb rfl rfl (nb rfl) rfl (h3) (r_bin rfl rfl (nb rfl) rfl (run_int_eql _ _ _))) ?_
        refine AL.go (OpR.plain rfl (r_pickFb rfl (h3) rfl (nb rfl) (by rintro _ ⟨⟩))) ?_
        refine AL.go (OpR.plain rfl (r_assign rfl (nb rfl) (by rintro _ ⟨⟩))) ?_
        refine AL.nil ?_
        refine thenN ?_
        refine AW.ret ?_
        refine fin_id (.inr rfl) (ends_of rfl (.tmp rfl .nil)) ?_ .nil rfl rfl rfl rfl
        simp only [retA]
        refine A.le_of_eq ?_
        first | (simp_all [isBlank]; done) | (simp_all [isBlank]; omega)


theorem letter_s (c : Int) : Am.Spec Tryd.prog 71 [A.val (.int .u8 c)] [] (A.bool (isLetter c)) [] := by
  refine spec_ofN (n := 13) Tryd.func71 rfl rfl (nb rfl) ?_
  show AW _ _ (⟨[(0, A.val (.int .u8 c))], [], []⟩ : St) _
  refine AW.seq ?_
  refine AW.region ?_
  refine AL.go (OpR.plain rfl (r_assign rfl (nb rfl) (by rintro _ ⟨⟩; rfl))) ?_
  refine AL.nil ?_
  refine thenN ?_
  refine AW.seq ?_
  refine AW.region ?_
  refine AL.go (OpR.plain rfl (r_move rfl (nb rfl) (by rintro _ ⟨⟩))) ?_
  refine AL.go (OpR.plain rfl (r_bin rfl rfl (nb rfl) rfl (run_int_geq _ _ _))) ?_
  refine AL.go (OpR.plain rfl (r_move rfl (nb rfl) (by rintro _ ⟨⟩))) ?_
  refine AL.ifb (t := 5) rfl (fun h1 => ?_) (fun h1 => ?_)
  · have h1n := h1; try simp only [dtt, dff, bqi, bqf, bni, bnf, nt1, nf1, nt0, nf0, ne_eq, ilt, ile] at h1n
    refine AL.go (OpR.onb rfl rfl (nb rfl) rfl (h1) (r_move rfl (nb rfl) (by rintro _ ⟨⟩))) ?_
    refine AL.go (OpR.onb rfl rfl (nb rfl) rfl (h1) (r_bin rfl rfl (nb rfl) rfl (run_int_leq _ _ _))) ?_
    refine AL.go (OpR.plain rfl (r_pickTb rfl (h1) rfl (nb rfl) (by rintro _ ⟨⟩))) ?_
    refine AL.go (OpR.plain rfl (r_move rfl (nb rfl) (by rintro _ ⟨⟩))) ?_
    refine AL.ifb (t := 9) rfl (fun h2 => ?_) (fun h2 => ?_)
    · have h2n := h2; try simp only [dtt, dff, bqi, bqf, bni, bnf, nt1, nf1, nt0, nf0, ne_eq, ilt, ile] at h2n
      refine AL.go (.off rfl rfl (nb rfl) rfl (by rw [h2]; decide) rfl (nb rfl)) ?_
      refine AL.go (.off rfl rfl (nb rfl) rfl (by rw [h2]; decide) rfl (nb rfl)) ?_
      refine AL.go (OpR.plain rfl (r_pickTb rfl (h2) rfl (nb rfl) (by rintro _ ⟨⟩; rfl))) ?_
      refine AL.go (OpR.plain rfl (r_assign rfl (nb rfl) (by rintro _ ⟨⟩))) ?_
      refine AL.nil ?_
      refine thenN ?_
      refine AW.ret ?_
      refine fin_id (.inr rfl) (ends_of rfl (.tmp rfl .nil)) ?_ .nil rfl rfl rfl rfl
      simp only [retA]
      refine A.le_of_eq ?_
      first | (simp_all [isLetter]; done) | (simp_all [isLetter]; omega)
    · have h2n := h2; try simp only [dtt, dff, bqi, bqf, bni, bnf, nt1, nf1, nt0, nf0, ne_eq, ilt, ile] at h2n
      refine AL.go (OpR.onb rfl rfl (nb rfl) rfl (h2) (r_move rfl (nb rfl) (by rintro _ ⟨⟩))) ?_
      refine AL.go (OpR.onb rfl rfl (nb rfl) rfl (h2) (r_bin rfl rfl (nb rfl) rfl (run_int_eql _ _ _))) ?_
      refine AL.go (OpR.plain rfl (r_pickFb rfl (h2) rfl (nb rfl) (by rintro _ ⟨⟩))) ?_
      refine AL.go (OpR.plain rfl (r_assign rfl (nb rfl) (by rintro _ ⟨⟩))) ?_
      refine AL.nil ?_
      refine thenN ?_
      refine AW.ret ?_
      refine fin_id (.inr rfl) (ends_of rfl (.tmp rfl .nil)) ?_ .nil rfl rfl rfl rfl
      simp only [retA]
      refine A.le_of_eq ?_
      first | (simp_all [isLetter]; done) | (simp_all [isLetter]; omega)
  · have h1n := h1; try simp only [dtt, dff, bqi, bqf, bni, bnf, nt1, nf1, nt0, nf0, ne_eq, ilt, ile] at h1n
    refine AL.go (.off rfl rfl (nb rfl) rfl (by rw [h1]; decide) rfl (nb rfl)) ?_
    refine AL.go (.off rfl rfl (nb rfl) rfl (by rw [h1]; decide) rfl (nb rfl)) ?_
    refine AL.go (OpR.plain rfl (r_pickFb rfl (h1) rfl (nb rfl) (by rintro _ ⟨⟩; rfl))) ?_
    refine AL.go (OpR.plain rfl (r_move rfl (nb rfl) (by rintro _ ⟨⟩))) ?_
    refine AL.go (OpR.onb rfl rfl (nb rfl) rfl (rfl) (r_move rfl (nb rfl) (by rintro _ ⟨⟩))) ?_
    refine AL.go (OpR.onb rfl rfl (nb rfl) rfl (rfl) (r_bin rfl rfl (nb rfl) rfl (run_int_eql _ _ _))) ?_
    refine AL.go (OpR.plain rfl (r_pickFb rfl (rfl) rfl (nb rfl) (by rintro _ ⟨⟩))) ?_
    refine AL.go (OpR.plain rfl (r_assign rfl (nb rfl) (by rintro _ ⟨⟩))) ?_
    refine AL.nil ?_
    refine thenN ?_
    refine AW.ret ?_
    refine fin_id (.inr rfl) (ends_of rfl (.tmp rfl .nil)) ?_ .nil rfl rfl rfl rfl
    simp only [retA]
    refine A.le_of_eq ?_
    first | (simp_all [isLetter]; done) | (simp_all [isLetter]; omega)


theorem digit_s (c : Int) : Am.Spec Tryd.prog 73 [A.val (.int .u8 c)] [] (A.bool (isDigit c)) [] := by
  refine spec_ofN (n := 9) Tryd.func73 rfl rfl (nb rfl) ?_
  show AW _ _ (⟨[(0, A.val (.int .u8 c))], [], []⟩ : St) _
  refine AW.seq ?_
  refine AW.region ?_
  refine AL.go (OpR.plain rfl (r_assign rfl (nb rfl) (by rintro _ ⟨⟩; rfl))) ?_
  refine AL.nil ?_
  refine thenN ?_
  refine AW.seq ?_
  refine AW.region ?_
  refine AL.go (OpR.plain rfl (r_move rfl (nb rfl) (by rintro _ ⟨⟩))) ?_
  refine AL.go (OpR.plain rfl (r_bin rfl rfl (nb rfl) rfl (run_int_geq _ _ _))) ?_
  refine AL.go (OpR.plain rfl (r_move rfl (nb rfl) (by rintro _ ⟨⟩))) ?_
  refine AL.ifb (t := 5) rfl (fun h1 => ?_) (fun h1 => ?_)
  · have h1n := h1; try simp only [dtt, dff, bqi, bqf, bni, bnf, nt1, nf1, nt0, nf0, ne_eq, ilt, ile] at h1n
    refine AL.go (OpR.onb rfl rfl (nb rfl) rfl (h1) (r_move rfl (nb rfl) (by rintro _ ⟨⟩))) ?_
    refine AL.go (OpR.onb rfl rfl (nb rfl) rfl (h1) (r_bin rfl rfl (nb rfl) rfl (run_int_leq _ _ _))) ?_
    refine AL.go (OpR.plain rfl (r_pickTb rfl (h1) rfl (nb rfl) (by rintro _ ⟨⟩))) ?_
    refine AL.go (OpR.plain rfl (r_assign rfl (nb rfl) (by rintro _ ⟨⟩))) ?_
    refine AL.nil ?_
    refine thenN ?_
    refine AW.ret ?_
    refine fin_id (.inr rfl) (ends_of rfl (.tmp rfl .nil)) ?_ .nil rfl rfl rfl rfl
    simp only [retA]
    refine A.le_of_eq ?_
    first | (simp_all [isDigit]; done) | (simp_all [isDigit]; omega)
  · have h1n := h1; try simp only [dtt, dff, bqi, bqf, bni, bnf, nt1, nf1, nt0, nf0, ne_eq, ilt, ile] at h1n
    refine AL.go (.off rfl rfl (nb rfl) rfl (by rw [h1]; decide) rfl (nb rfl)) ?_
    refine AL.go (.off rfl rfl (nb rfl) rfl (by rw [h1]; decide) rfl (nb rfl)) ?_
    refine AL.go (OpR.plain rfl (r_pickFb rfl (h1) rfl (nb rfl) (by rintro _ ⟨⟩; rfl))) ?_
    refine AL.go (OpR.plain rfl (r_assign rfl (nb rfl) (by rintro _ ⟨⟩))) ?_
    refine AL.nil ?_
    refine thenN ?_
    refine AW.ret ?_
    refine fin_id (.inr rfl) (ends_of rfl (.tmp rfl .nil)) ?_ .nil rfl rfl rfl rfl
    simp only [retA]
    refine A.le_of_eq ?_
    first | (simp_all [isDigit]; done) | (simp_all [isDigit]; omega)


theorem ok_s (p : Pst) : Am.Spec Tryd.prog 25 [A.c (.ref 0 0)] [(0, pbox p)] (A.bool (p.e == 0)) [(0, pbox p)] := by
  refine spec_ofN (n := 8) Tryd.func25 rfl rfl (nb rfl) ?_
  show AW _ _ (⟨[(0, A.c (.ref 0 0))], [(0, pbox p)], []⟩ : St) _
  refine AW.seq ?_
  refine AW.region ?_
  refine AL.go (OpR.plain rfl (r_assign rfl (nb rfl) (by rintro _ ⟨⟩; rfl))) ?_
  refine AL.nil ?_
  refine thenN ?_
  refine AW.seq ?_
  refine AW.region ?_
  refine AL.go (OpR.plain rfl (r_move rfl (nb rfl) (by rintro _ ⟨⟩))) ?_
  first | refine AL.go (OpR.plain rfl (r_nilCheck rfl (.inl ⟨_, _, rfl⟩) (nb rfl))) ?_ | refine AL.go (OpR.plain rfl (r_nilCheck rfl (.inr ⟨_, rfl⟩) (nb rfl))) ?_
  first | refine AL.go (OpR.plain rfl (r_fieldAddr fo_52_3 (by decide) rfl (nb rfl))) ?_ | refine AL.go (OpR.plain rfl (r_fieldAddrp fo_52_3 (by decide) rfl (nb rfl))) ?_
  first | refine AL.go (OpR.plain rfl (r_load ti_28 rfl rfl rfl (nb rfl))) ?_ | refine AL.go (OpR.plain rfl (r_loadp ti_28 rfl rfl (nb rfl))) ?_
  refine AL.go (OpR.plain rfl (r_bin rfl rfl (nb rfl) rfl (run_int_eql _ _ _))) ?_
  refine AL.go (OpR.plain rfl (r_assign rfl (nb rfl) (by rintro _ ⟨⟩))) ?_
  refine AL.nil ?_
  refine thenN ?_
  refine AW.ret ?_
  refine fin_id (.inr rfl) (ends_of rfl (.tmp rfl .nil)) ?_ (.cons rfl (Ob.le_refl _) .nil) rfl rfl rfl rfl
  simp only [retA]
  exact A.le_refl _

theorem fail_s (p : Pst) (e : Int) : Am.Spec Tryd.prog 49 [A.c (.ref 0 0), A.i64 e] [(0, pbox p)] (A.tup []) [(0, pbox (p.fail e))] := by
  refine spec_ofN (n := 13) Tryd.func49 rfl rfl (nb rfl) ?_
  show AW _ _ (⟨[(0, A.c (.ref 0 0)), (1, A.i64 e)], [(0, pbox p)], []⟩ : St) _
  refine AW.seq ?_
  refine AW.region ?_
  refine AL.go (OpR.plain rfl (r_move rfl (nb rfl) (by rintro _ ⟨⟩))) ?_
  first | refine AL.go (OpR.plain rfl (r_nilCheck rfl (.inl ⟨_, _, rfl⟩) (nb rfl))) ?_ | refine AL.go (OpR.plain rfl (r_nilCheck rfl (.inr ⟨_, rfl⟩) (nb rfl))) ?_
  first | refine AL.go (OpR.plain rfl (r_fieldAddr fo_52_3 (by decide) rfl (nb rfl))) ?_ | refine AL.go (OpR.plain rfl (r_fieldAddrp fo_52_3 (by decide) rfl (nb rfl))) ?_
  first | refine AL.go (OpR.plain rfl (r_load ti_28 rfl rfl rfl (nb rfl))) ?_ | refine AL.go (OpR.plain rfl (r_loadp ti_28 rfl rfl (nb rfl))) ?_
  refine AL.go (OpR.plain rfl (r_bin rfl rfl (nb rfl) rfl (run_int_eql _ _ _))) ?_
  refine AL.nil ?_
  refine thenN ?_
  refine AW.condb rfl (fun h1 => ?_) (fun h1 => ?_)
  · have h1n := h1; try simp only [dtt, dff, bqi, bqf, bni, bnf, nt1, nf1, nt0, nf0, ne_eq, ilt, ile] at h1n
    refine AW.region ?_
    refine AL.go (OpR.plain rfl (r_move rfl (nb rfl) (by rintro _ ⟨⟩))) ?_
    refine AL.go (OpR.plain rfl (r_move rfl (nb rfl) (by rintro _ ⟨⟩))) ?_
    first | refine AL.go (OpR.plain rfl (r_nilCheck rfl (.inl ⟨_, _, rfl⟩) (nb rfl))) ?_ | refine AL.go (OpR.plain rfl (r_nilCheck rfl (.inr ⟨_, rfl⟩) (nb rfl))) ?_
    first | refine AL.go (OpR.plain rfl (r_fieldAddr fo_52_3 (by decide) rfl (nb rfl))) ?_ | refine AL.go (OpR.plain rfl (r_fieldAddrp fo_52_3 (by decide) rfl (nb rfl))) ?_
    refine AL.go (OpR.plain rfl (r_storeN ti_28 rfl rfl rfl rfl rfl (nb rfl) (by simp only [putAt, tks, tkz, tkn, dps, dpz, cap, nap, apn, lnc, lnn, zad, Nat.reduceAdd, adz]; rfl) (by rintro _ ⟨⟩))) ?_
    refine AL.nil ?_
    refine fin_id (.inl rfl) (ends_of rfl .nil) ?_ (.cons rfl (Ob.le_of_eq (by simp_all [pbox, Pst.fail])) .nil) rfl rfl rfl rfl
    simp only [retA]
    exact A.le_refl _
  · have h1n := h1; try simp only [dtt, dff, bqi, bqf, bni, bnf, nt1, nf1, nt0, nf0, ne_eq, ilt, ile] at h1n
    refine AW.skip ?_
    refine fin_id (.inl rfl) (ends_of rfl .nil) ?_ (.cons rfl (Ob.le_of_eq (by simp_all [pbox, Pst.fail])) .nil) rfl rfl rfl rfl
    simp only [retA]
    exact A.le_refl _

theorem up_s (p : Pst) (h0 : p.deep ≤ 1000) (h1 : 1 ≤ p.deep) : Am.Spec Tryd.prog 78 [A.c (.ref 0 0)] [(0, pbox p)] (A.tup []) [(0, pbox (p.up))] := by
  refine spec_ofN (n := 9) Tryd.func78 rfl rfl (nb rfl) ?_
  show AW _ _ (⟨[(0, A.c (.ref 0 0))], [(0, pbox p)], []⟩ : St) _
  refine AW.region ?_
  refine AL.go (OpR.plain rfl (r_move rfl (nb rfl) (by rintro _ ⟨⟩))) ?_
  first | refine AL.go (OpR.plain rfl (r_nilCheck rfl (.inl ⟨_, _, rfl⟩) (nb rfl))) ?_ | refine AL.go (OpR.plain rfl (r_nilCheck rfl (.inr ⟨_, rfl⟩) (nb rfl))) ?_
  first | refine AL.go (OpR.plain rfl (r_fieldAddr fo_52_2 (by decide) rfl (nb rfl))) ?_ | refine AL.go (OpR.plain rfl (r_fieldAddrp fo_52_2 (by decide) rfl (nb rfl))) ?_
  first | refine AL.go (OpR.plain rfl (r_load ti_3 rfl rfl rfl (nb rfl))) ?_ | refine AL.go (OpR.plain rfl (r_loadp ti_3 rfl rfl (nb rfl))) ?_
  refine AL.go (OpR.plain rfl (r_sub rfl rfl (nb rfl) (by first | omega | (simp only [dtt, dff, bqi, bqf, bni, nt1, nf1] at *; omega)) (by first | omega | (simp only [dtt, dff, bqi, bqf, bni, nt1, nf1] at *; omega)))) ?_
  first | refine AL.go (OpR.plain rfl (r_nilCheck rfl (.inl ⟨_, _, rfl⟩) (nb rfl))) ?_ | refine AL.go (OpR.plain rfl (r_nilCheck rfl (.inr ⟨_, rfl⟩) (nb rfl))) ?_
  first | refine AL.go (OpR.plain rfl (r_fieldAddr fo_52_2 (by decide) rfl (nb rfl))) ?_ | refine AL.go (OpR.plain rfl (r_fieldAddrp fo_52_2 (by decide) rfl (nb rfl))) ?_
  refine AL.go (OpR.plain rfl (r_storeN ti_3 rfl rfl rfl rfl rfl (nb rfl) (by simp only [putAt, tks, tkz, tkn, dps, dpz, cap, nap, apn, lnc, lnn, zad, Nat.reduceAdd, adz]; rfl) (by rintro _ ⟨⟩))) ?_
  refine AL.nil ?_
  refine fin_id (.inl rfl) (ends_of rfl .nil) ?_ (.cons rfl (Ob.le_of_eq (by simp [pbox, Pst.up]; omega)) .nil) rfl rfl rfl rfl
  simp only [retA]
  exact A.le_refl _

theorem down_s (p : Pst) (h0 : p.deep ≤ 1000) : Am.Spec Tryd.prog 77 [A.c (.ref 0 0)] [(0, pbox p)] (A.tup []) [(0, pbox (p.down))] := by
  refine spec_ofN (n := 16) Tryd.func77 rfl rfl (nb rfl) ?_
  show AW _ _ (⟨[(0, A.c (.ref 0 0))], [(0, pbox p)], []⟩ : St) _
  refine AW.seq ?_
  refine AW.region ?_
  refine AL.go (OpR.plain rfl (r_move rfl (nb rfl) (by rintro _ ⟨⟩))) ?_
  first | refine AL.go (OpR.plain rfl (r_nilCheck rfl (.inl ⟨_, _, rfl⟩) (nb rfl))) ?_ | refine AL.go (OpR.plain rfl (r_nilCheck rfl (.inr ⟨_, rfl⟩) (nb rfl))) ?_
  first | refine AL.go (OpR.plain rfl (r_fieldAddr fo_52_2 (by decide) rfl (nb rfl))) ?_ | refine AL.go (OpR.plain rfl (r_fieldAddrp fo_52_2 (by decide) rfl (nb rfl))) ?_
  first | refine AL.go (OpR.plain rfl (r_load ti_3 rfl rfl rfl (nb rfl))) ?_ | refine AL.go (OpR.plain rfl (r_loadp ti_3 rfl rfl (nb rfl))) ?_
  refine AL.go (OpR.plain rfl (r_add rfl rfl (nb rfl) (by first | omega | (simp only [dtt, dff, bqi, bqf, bni, nt1, nf1] at *; omega)) (by first | omega | (simp only [dtt, dff, bqi, bqf, bni, nt1, nf1] at *; omega)))) ?_
  first | refine AL.go (OpR.plain rfl (r_nilCheck rfl (.inl ⟨_, _, rfl⟩) (nb rfl))) ?_ | refine AL.go (OpR.plain rfl (r_nilCheck rfl (.inr ⟨_, rfl⟩) (nb rfl))) ?_
  first | refine AL.go (OpR.plain rfl (r_fieldAddr fo_52_2 (by decide) rfl (nb rfl))) ?_ | refine AL.go (OpR.plain rfl (r_fieldAddrp fo_52_2 (by decide) rfl (nb rfl))) ?_
  refine AL.go (OpR.plain rfl (r_storeN ti_3 rfl rfl rfl rfl rfl (nb rfl) (by simp only [putAt, tks, tkz, tkn, dps, dpz, cap, nap, apn, lnc, lnn, zad, Nat.reduceAdd, adz]; rfl) (by rintro _ ⟨⟩))) ?_
  refine AL.nil ?_
  refine thenN ?_
  refine AW.seq ?_
  refine AW.region ?_
  refine AL.go (OpR.plain rfl (r_move rfl (nb rfl) (by rintro _ ⟨⟩))) ?_
  first | refine AL.go (OpR.plain rfl (r_nilCheck rfl (.inl ⟨_, _, rfl⟩) (nb rfl))) ?_ | refine AL.go (OpR.plain rfl (r_nilCheck rfl (.inr ⟨_, rfl⟩) (nb rfl))) ?_
  first | refine AL.go (OpR.plain rfl (r_fieldAddr fo_52_2 (by decide) rfl (nb rfl))) ?_ | refine AL.go (OpR.plain rfl (r_fieldAddrp fo_52_2 (by decide) rfl (nb rfl))) ?_
  first | refine AL.go (OpR.plain rfl (r_load ti_3 rfl rfl rfl (nb rfl))) ?_ | refine AL.go (OpR.plain rfl (r_loadp ti_3 rfl rfl (nb rfl))) ?_
  refine AL.go (OpR.plain rfl (r_bin rfl rfl (nb rfl) rfl (run_int_gtr _ _ _))) ?_
  refine AL.nil ?_
  refine thenN ?_
  refine AW.condb rfl (fun h1 => ?_) (fun h1 => ?_)
  · have h1n := h1; try simp only [dtt, dff, bqi, bqf, bni, bnf, nt1, nf1, nt0, nf0, ne_eq, ilt, ile] at h1n
    refine AW.region ?_
    refine AL.go (OpR.plain rfl (r_move rfl (nb rfl) (by rintro _ ⟨⟩))) ?_
    refine AL.go (OpR.plain rfl (r_callId (fail_s { p with deep := p.deep + 1 } 4) en_49 rfl rfl rfl rfl (.cons (A.le_refl _) (.cons (A.le_refl _) .nil)) rfl (.cons rfl .nil) rfl rfl rfl (nb rfl))) ?_
    refine AL.nil ?_
    refine fin_id (.inl rfl) (ends_of rfl .nil) ?_ (.cons rfl (Ob.le_of_eq (by unfold Pst.down; dsimp only; split <;> first | rfl | (exfalso; simp_all; omega))) .nil) rfl rfl rfl rfl
    simp only [retA]
    exact A.le_refl _
  · have h1n := h1; try simp only [dtt, dff, bqi, bqf, bni, bnf, nt1, nf1, nt0, nf0, ne_eq, ilt, ile] at h1n
    refine AW.skip ?_
    refine fin_id (.inl rfl) (ends_of rfl .nil) ?_ (.cons rfl (Ob.le_of_eq (by unfold Pst.down; dsimp only; split <;> first | rfl | (exfalso; simp_all; omega))) .nil) rfl rfl rfl rfl
    simp only [retA]
    exact A.le_refl _

theorem tok_s (p : Pst) (h0 : p.Ok) : Am.Spec Tryd.prog 48 [A.c (.ref 0 0)] [(0, pbox p)] (tokA p.tok) [(0, pbox p)] := by
  refine spec_ofN (n := 29) Tryd.func48 rfl rfl (nb rfl) ?_
  show AW _ _ (⟨[(0, A.c (.ref 0 0))], [(0, pbox p)], []⟩ : St) _
  have hle := h0.at_
  refine AW.seq ?_
  refine AW.region ?_
  refine AL.go (OpR.plain rfl (r_alloc 101 ti_71 zc_71 rfl rfl (nb rfl))) ?_
  refine AL.nil ?_
  refine thenN ?_
  refine AW.seq ?_
  refine AW.seq ?_
  refine AW.draw ?_
  refine DW.go (OpR.plain rfl (r_move rfl (nb rfl) (by rintro _ ⟨⟩))) ?_
  refine DW.go (OpR.plain rfl (r_callId (ok_s p) en_25 rfl rfl rfl rfl (.cons (A.le_refl _) .nil) rfl (.cons rfl .nil) rfl rfl rfl (nb rfl))) ?_
  refine DW.go (OpR.plain rfl (r_not rfl (nb rfl))) ?_
  refine DW.go (OpR.plain rfl (r_move rfl (nb rfl) (by rintro _ ⟨⟩))) ?_
  refine DW.ifb (t := 6) rfl (fun h1 => ?_) (fun h1 => ?_)
  · have h1n := h1; try simp only [dtt, dff, bqi, bqf, bni, bnf, nt1, nf1, nt0, nf0, ne_eq, ilt, ile] at h1n
    refine DW.go (.off rfl rfl (nb rfl) rfl (by rw [h1]; decide) rfl (nb rfl)) ?_
    refine DW.go (.off rfl rfl (nb rfl) rfl (by rw [h1]; decide) rfl (nb rfl)) ?_
    refine DW.go (.off rfl rfl (nb rfl) rfl (by rw [h1]; decide) rfl (nb rfl)) ?_
    refine DW.go (.off rfl rfl (nb rfl) rfl (by rw [h1]; decide) rfl (nb rfl)) ?_
    refine DW.go (.off rfl rfl (nb rfl) rfl (by rw [h1]; decide) rfl (nb rfl)) ?_
    refine DW.go (.off rfl rfl (nb rfl) rfl (by rw [h1]; decide) rfl (nb rfl)) ?_
    refine DW.go (.off rfl rfl (nb rfl) rfl (by rw [h1]; decide) rfl (nb rfl)) ?_
    refine DW.go (.off rfl rfl (nb rfl) rfl (by rw [h1]; decide) rfl (nb rfl)) ?_
    refine DW.go (.off rfl rfl (nb rfl) rfl (by rw [h1]; decide) rfl (nb rfl)) ?_
    refine DW.go (.off rfl rfl (nb rfl) rfl (by rw [h1]; decide) rfl (nb rfl)) ?_
    refine DW.go (OpR.plain rfl (r_pickTb rfl (h1) rfl (nb rfl) (by rintro _ ⟨⟩; rfl))) ?_
    refine DW.fin mixed (by kernel_rfl) (by kernel_rfl) ?_
    refine thenN ?_
    refine AW.condT rfl (rfl) ?_
    refine AW.seq ?_
    refine AW.region ?_
    refine AL.go (OpR.plain rfl (r_build pl_71 rfl zc_71 rfl rfl (by simp only [fillC, putAt, gez, ges, if_true, and_self, Nat.reduceLeDiff, true_and, tks, tkz, tkn, dps, dpz, cap, nap, apn, lnc, lnn, zad, Nat.reduceAdd, adz]; rfl) (nb rfl))) ?_
    refine AL.go (OpR.plain rfl (r_storeN ti_71 rfl rfl rfl rfl rfl (nb rfl) (by simp only [putAt, tks, tkz, tkn, dps, dpz, cap, nap, apn, lnc, lnn, zad, Nat.reduceAdd, adz]; rfl) (by rintro _ ⟨⟩))) ?_
    refine AL.nil ?_
    refine thenN ?_
    refine AW.ret ?_
    refine thenR ?_
    refine fin_id (.inr rfl) (ends_of rfl (.cell ti_71 rfl rfl (by simp only [loaded, if_true, ler, tks, tkz, tkn, dps, dpz, cap, nap, apn, lnc, lnn, zad, Nat.reduceAdd, adz]; rfl) .nil)) ?_ (.cons rfl (Ob.le_refl _) .nil) rfl rfl rfl rfl
    simp only [retA]
    refine A.le_of_eq ?_
    first | (simp_all [Pst.tok, tokA]; done) | (simp_all [Pst.tok, tokA]; omega)
  · have h1n := h1; try simp only [dtt, dff, bqi, bqf, bni, bnf, nt1, nf1, nt0, nf0, ne_eq, ilt, ile] at h1n
    refine DW.go (OpR.onb rfl rfl (nb rfl) rfl (h1) (r_move rfl (nb rfl) (by rintro _ ⟨⟩))) ?_
    first | refine DW.go (OpR.onb rfl rfl (nb rfl) rfl (h1) (r_nilCheck rfl (.inl ⟨_, _, rfl⟩) (nb rfl))) ?_ | refine DW.go (OpR.onb rfl rfl (nb rfl) rfl (h1) (r_nilCheck rfl (.inr ⟨_, rfl⟩) (nb rfl))) ?_
    first | refine DW.go (OpR.onb rfl rfl (nb rfl) rfl (h1) (r_fieldAddr fo_52_1 (by decide) rfl (nb rfl))) ?_ | refine DW.go (OpR.onb rfl rfl (nb rfl) rfl (h1) (r_fieldAddrp fo_52_1 (by decide) rfl (nb rfl))) ?_
    first | refine DW.go (OpR.onb rfl rfl (nb rfl) rfl (h1) (r_load ti_3 rfl rfl rfl (nb rfl))) ?_ | refine DW.go (OpR.onb rfl rfl (nb rfl) rfl (h1) (r_loadp ti_3 rfl rfl (nb rfl))) ?_
    refine DW.go (OpR.onb rfl rfl (nb rfl) rfl (h1) (r_move rfl (nb rfl) (by rintro _ ⟨⟩))) ?_
    first | refine DW.go (OpR.onb rfl rfl (nb rfl) rfl (h1) (r_nilCheck rfl (.inl ⟨_, _, rfl⟩) (nb rfl))) ?_ | refine DW.go (OpR.onb rfl rfl (nb rfl) rfl (h1) (r_nilCheck rfl (.inr ⟨_, rfl⟩) (nb rfl))) ?_
    first | refine DW.go (OpR.onb rfl rfl (nb rfl) rfl (h1) (r_fieldAddr fo_52_0 (by decide) rfl (nb rfl))) ?_ | refine DW.go (OpR.onb rfl rfl (nb rfl) rfl (h1) (r_fieldAddrp fo_52_0 (by decide) rfl (nb rfl))) ?_
    first | refine DW.go (OpR.onb rfl rfl (nb rfl) rfl (h1) (r_load ti_50 rfl rfl rfl (nb rfl))) ?_ | refine DW.go (OpR.onb rfl rfl (nb rfl) rfl (h1) (r_loadp ti_50 rfl rfl (nb rfl))) ?_
    refine DW.go (OpR.onb rfl rfl (nb rfl) rfl (h1) (r_len un_50 rfl (by first | exact .sl | exact .own | exact .row | exact .nil) (by intro _ h; cases h) (nb rfl) (by rintro _ ⟨⟩))) ?_
    refine DW.go (OpR.onb rfl rfl (nb rfl) rfl (h1) (r_bin rfl rfl (nb rfl) rfl (run_int_geq _ _ _))) ?_
    refine DW.go (OpR.plain rfl (r_pickFb rfl (h1) rfl (nb rfl) (by rintro _ ⟨⟩))) ?_
    refine DW.fin mixed (by kernel_rfl) (by kernel_rfl) ?_
    refine thenN ?_
    refine AW.condb rfl (fun h2 => ?_) (fun h2 => ?_)
    · have h2n := h2; try simp only [dtt, dff, bqi, bqf, bni, bnf, nt1, nf1, nt0, nf0, ne_eq, ilt, ile] at h2n
      refine AW.seq ?_
      refine AW.region ?_
      refine AL.go (OpR.plain rfl (r_build pl_71 rfl zc_71 rfl rfl (by simp only [fillC, putAt, gez, ges, if_true, and_self, Nat.reduceLeDiff, true_and, tks, tkz, tkn, dps, dpz, cap, nap, apn, lnc, lnn, zad, Nat.reduceAdd, adz]; rfl) (nb rfl))) ?_
      refine AL.go (OpR.plain rfl (r_storeN ti_71 rfl rfl rfl rfl rfl (nb rfl) (by simp only [putAt, tks, tkz, tkn, dps, dpz, cap, nap, apn, lnc, lnn, zad, Nat.reduceAdd, adz]; rfl) (by rintro _ ⟨⟩))) ?_
      refine AL.nil ?_
      refine thenN ?_
      refine AW.ret ?_
      refine thenR ?_
      refine fin_id (.inr rfl) (ends_of rfl (.cell ti_71 rfl rfl (by simp only [loaded, if_true, ler, tks, tkz, tkn, dps, dpz, cap, nap, apn, lnc, lnn, zad, Nat.reduceAdd, adz]; rfl) .nil)) ?_ (.cons rfl (Ob.le_refl _) .nil) rfl rfl rfl rfl
      simp only [retA]
      refine A.le_of_eq ?_
      first | (simp_all [Pst.tok, tokA]; done) | (simp_all [Pst.tok, tokA]; omega)
    · have h2n := h2; try simp only [dtt, dff, bqi, bqf, bni, bnf, nt1, nf1, nt0, nf0, ne_eq, ilt, ile] at h2n
      refine AW.skip ?_
      refine thenN ?_
      refine AW.seq ?_
      refine AW.draw ?_
      refine DW.go (OpR.plain rfl (r_move rfl (nb rfl) (by rintro _ ⟨⟩))) ?_
      first | refine DW.go (OpR.plain rfl (r_nilCheck rfl (.inl ⟨_, _, rfl⟩) (nb rfl))) ?_ | refine DW.go (OpR.plain rfl (r_nilCheck rfl (.inr ⟨_, rfl⟩) (nb rfl))) ?_
      first | refine DW.go (OpR.plain rfl (r_fieldAddr fo_52_0 (by decide) rfl (nb rfl))) ?_ | refine DW.go (OpR.plain rfl (r_fieldAddrp fo_52_0 (by decide) rfl (nb rfl))) ?_
      first | refine DW.go (OpR.plain rfl (r_load ti_50 rfl rfl rfl (nb rfl))) ?_ | refine DW.go (OpR.plain rfl (r_loadp ti_50 rfl rfl (nb rfl))) ?_
      refine DW.go (OpR.plain rfl (r_move rfl (nb rfl) (by rintro _ ⟨⟩))) ?_
      first | refine DW.go (OpR.plain rfl (r_nilCheck rfl (.inl ⟨_, _, rfl⟩) (nb rfl))) ?_ | refine DW.go (OpR.plain rfl (r_nilCheck rfl (.inr ⟨_, rfl⟩) (nb rfl))) ?_
      first | refine DW.go (OpR.plain rfl (r_fieldAddr fo_52_1 (by decide) rfl (nb rfl))) ?_ | refine DW.go (OpR.plain rfl (r_fieldAddrp fo_52_1 (by decide) rfl (nb rfl))) ?_
      first | refine DW.go (OpR.plain rfl (r_load ti_3 rfl rfl rfl (nb rfl))) ?_ | refine DW.go (OpR.plain rfl (r_loadp ti_3 rfl rfl (nb rfl))) ?_
      refine DW.go (OpR.plain rfl (r_indexAddr un_50 ti_71 rfl (by first | exact .inl rfl | exact .inr ⟨_, rfl⟩) rfl tok_len (by first | omega | (simp only [dtt, dff, bqi, bqf, bni, nt1, nf1] at *; omega)) (tok_at (by omega) (by simp_all)) (nb rfl))) ?_
      first | refine DW.go (OpR.plain rfl (r_load ti_71 rfl rfl (by simp only [loaded, mpc, mpn, if_true, ler, tks, tkz, tkn, dps, dpz, cap, nap, apn, lnc, lnn, zad, Nat.reduceAdd, adz]; rfl) (nb rfl))) ?_ | refine DW.go (OpR.plain rfl (r_loadp ti_71 rfl (by simp only [loaded, mpc, mpn, if_true, ler, tks, tkz, tkn, dps, dpz, cap, nap, apn, lnc, lnn, zad, Nat.reduceAdd, adz]; rfl) (nb rfl))) ?_
      refine DW.go (OpR.plain rfl (r_storeN ti_71 rfl rfl rfl rfl rfl (nb rfl) (by simp only [putAt, tks, tkz, tkn, dps, dpz, cap, nap, apn, lnc, lnn, zad, Nat.reduceAdd, adz]; rfl) (by rintro _ ⟨⟩))) ?_
      refine DW.fin mixed (by kernel_rfl) (by kernel_rfl) ?_
      refine thenN ?_
      refine AW.ret ?_
      refine fin_id (.inr rfl) (ends_of rfl (.cell ti_71 rfl rfl (by simp only [loaded, if_true, ler, tks, tkz, tkn, dps, dpz, cap, nap, apn, lnc, lnn, zad, Nat.reduceAdd, adz]; rfl) .nil)) ?_ (.cons rfl (Ob.le_refl _) .nil) rfl rfl rfl rfl
      simp only [retA]
      refine A.le_of_eq ?_
      first | (simp_all [Pst.tok, tokA]; done) | (simp_all [Pst.tok, tokA]; omega)

theorem is_s (p : Pst) (h0 : p.Ok) (s : ByteArray) : Am.Spec Tryd.prog 58 [A.c (.ref 0 0), A.val (.string s)] [(0, pbox p)] (A.bool (p.is s)) [(0, pbox p)] := by
  refine spec_ofN (n := 26) Tryd.func58 rfl rfl (nb rfl) ?_
  show AW _ _ (⟨[(0, A.c (.ref 0 0)), (1, A.val (.string s))], [(0, pbox p)], []⟩ : St) _
  refine AW.seq ?_
  refine AW.region ?_
  refine AL.go (OpR.plain rfl (r_assign rfl (nb rfl) (by rintro _ ⟨⟩; rfl))) ?_
  refine AL.nil ?_
  refine thenN ?_
  refine AW.seq ?_
  refine AW.region ?_
  refine AL.go (OpR.plain rfl (r_move rfl (nb rfl) (by rintro _ ⟨⟩))) ?_
  refine AL.go (OpR.plain rfl (r_callId (tok_s p h0) en_48 rfl rfl rfl rfl (.cons (A.le_refl _) .nil) rfl (.cons rfl .nil) rfl rfl rfl (nb rfl))) ?_
  refine AL.go (OpR.plain rfl (r_alloc 101 ti_71 zc_71 rfl rfl (nb rfl))) ?_
  refine AL.go (OpR.plain rfl (r_storeN ti_71 rfl rfl rfl rfl rfl (nb rfl) (by simp only [putAt, tks, tkz, tkn, dps, dpz, cap, nap, apn, lnc, lnn, zad, Nat.reduceAdd, adz]; rfl) (by rintro _ ⟨⟩))) ?_
  refine AL.nil ?_
  refine thenN ?_
  refine AW.seq ?_
  refine AW.region ?_
  refine AL.go (OpR.plain rfl (r_move rfl (nb rfl) (by rintro _ ⟨⟩))) ?_
  refine AL.go (OpR.plain rfl (r_callId (ok_s p) en_25 rfl rfl rfl rfl (.cons (A.le_refl _) .nil) rfl (.cons rfl .nil) rfl rfl rfl (nb rfl))) ?_
  refine AL.go (OpR.plain rfl (r_move rfl (nb rfl) (by rintro _ ⟨⟩))) ?_
  refine AL.ifb (t := 10) rfl (fun h1 => ?_) (fun h1 => ?_)
  · have h1n := h1; try simp only [dtt, dff, bqi, bqf, bni, bnf, nt1, nf1, nt0, nf0, ne_eq, ilt, ile] at h1n
    first | refine AL.go (OpR.onb rfl rfl (nb rfl) rfl (h1) (r_fieldAddr fo_71_0 (by decide) rfl (nb rfl))) ?_ | refine AL.go (OpR.onb rfl rfl (nb rfl) rfl (h1) (r_fieldAddrp fo_71_0 (by decide) rfl (nb rfl))) ?_
    first | refine AL.go (OpR.onb rfl rfl (nb rfl) rfl (h1) (r_load ti_3 rfl rfl rfl (nb rfl))) ?_ | refine AL.go (OpR.onb rfl rfl (nb rfl) rfl (h1) (r_loadp ti_3 rfl rfl (nb rfl))) ?_
    refine AL.go (OpR.onb rfl rfl (nb rfl) rfl (h1) (r_bin rfl rfl (nb rfl) rfl (run_int_eql _ _ _))) ?_
    refine AL.go (OpR.onb rfl rfl (nb rfl) rfl (h1) (r_move rfl (nb rfl) (by rintro _ ⟨⟩))) ?_
    refine AL.ifb (t := 14) rfl (fun h2 => ?_) (fun h2 => ?_)
    · have h2n := h2; try simp only [dtt, dff, bqi, bqf, bni, bnf, nt1, nf1, nt0, nf0, ne_eq, ilt, ile] at h2n
      refine AL.go (.off rfl rfl (nb rfl) rfl (by rw [h2]; decide) rfl (nb rfl)) ?_
      refine AL.go (.off rfl rfl (nb rfl) rfl (by rw [h2]; decide) rfl (nb rfl)) ?_
      refine AL.go (.off rfl rfl (nb rfl) rfl (by rw [h2]; decide) rfl (nb rfl)) ?_
      refine AL.go (OpR.onb rfl rfl (nb rfl) rfl (h1) (r_pickTb rfl (h2) rfl (nb rfl) (by rintro _ ⟨⟩; rfl))) ?_
      refine AL.go (OpR.plain rfl (r_pickTb rfl (h1) rfl (nb rfl) (by rintro _ ⟨⟩))) ?_
      refine AL.go (OpR.plain rfl (r_move rfl (nb rfl) (by rintro _ ⟨⟩))) ?_
      first | refine AL.go (OpR.onb rfl rfl (nb rfl) rfl (rfl) (r_fieldAddr fo_71_1 (by decide) rfl (nb rfl))) ?_ | refine AL.go (OpR.onb rfl rfl (nb rfl) rfl (rfl) (r_fieldAddrp fo_71_1 (by decide) rfl (nb rfl))) ?_
      first | refine AL.go (OpR.onb rfl rfl (nb rfl) rfl (rfl) (r_load ti_9 rfl rfl rfl (nb rfl))) ?_ | refine AL.go (OpR.onb rfl rfl (nb rfl) rfl (rfl) (r_loadp ti_9 rfl rfl (nb rfl))) ?_
      refine AL.go (OpR.onb rfl rfl (nb rfl) rfl (rfl) (r_move rfl (nb rfl) (by rintro _ ⟨⟩))) ?_
      refine AL.go (OpR.onb rfl rfl (nb rfl) rfl (rfl) (r_bin rfl rfl (nb rfl) rfl (run_str_eql _ _))) ?_
      refine AL.go (OpR.plain rfl (r_pickTb rfl (rfl) rfl (nb rfl) (by rintro _ ⟨⟩))) ?_
      refine AL.go (OpR.plain rfl (r_assign rfl (nb rfl) (by rintro _ ⟨⟩))) ?_
      refine AL.nil ?_
      refine thenN ?_
      refine AW.ret ?_
      refine fin_id (.inr rfl) (ends_of rfl (.tmp rfl .nil)) ?_ (.cons rfl (Ob.le_refl _) .nil) rfl rfl rfl rfl
      simp only [retA]
      refine A.le_of_eq ?_
      first | (simp_all [Pst.is]; done) | (simp_all [Pst.is]; omega)
    · have h2n := h2; try simp only [dtt, dff, bqi, bqf, bni, bnf, nt1, nf1, nt0, nf0, ne_eq, ilt, ile] at h2n
      first | refine AL.go (OpR.onb rfl rfl (nb rfl) rfl (h2) (r_fieldAddr fo_71_0 (by decide) rfl (nb rfl))) ?_ | refine AL.go (OpR.onb rfl rfl (nb rfl) rfl (h2) (r_fieldAddrp fo_71_0 (by decide) rfl (nb rfl))) ?_
      first | refine AL.go (OpR.onb rfl rfl (nb rfl) rfl (h2) (r_load ti_3 rfl rfl rfl (nb rfl))) ?_ | refine AL.go (OpR.onb rfl rfl (nb rfl) rfl (h2) (r_loadp ti_3 rfl rfl (nb rfl))) ?_
      refine AL.go (OpR.onb rfl rfl (nb rfl) rfl (h2) (r_bin rfl rfl (nb rfl) rfl (run_int_eql _ _ _))) ?_
      refine AL.go (OpR.onb rfl rfl (nb rfl) rfl (h1) (r_pickFb rfl (h2) rfl (nb rfl) (by rintro _ ⟨⟩))) ?_
      refine AL.go (OpR.plain rfl (r_pickTb rfl (h1) rfl (nb rfl) (by rintro _ ⟨⟩))) ?_
      refine AL.go (OpR.plain rfl (r_move rfl (nb rfl) (by rintro _ ⟨⟩))) ?_
      refine AL.ifb (t := 20) rfl (fun h3 => ?_) (fun h3 => ?_)
      · have h3n := h3; try simp only [dtt, dff, bqi, bqf, bni, bnf, nt1, nf1, nt0, nf0, ne_eq, ilt, ile] at h3n
        first | refine AL.go (OpR.onb rfl rfl (nb rfl) rfl (h3) (r_fieldAddr fo_71_1 (by decide) rfl (nb rfl))) ?_ | refine AL.go (OpR.onb rfl rfl (nb rfl) rfl (h3) (r_fieldAddrp fo_71_1 (by decide) rfl (nb rfl))) ?_
        first | refine AL.go (OpR.onb rfl rfl (nb rfl) rfl (h3) (r_load ti_9 rfl rfl rfl (nb rfl))) ?_ | refine AL.go (OpR.onb rfl rfl (nb rfl) rfl (h3) (r_loadp ti_9 rfl rfl (nb rfl))) ?_
        refine AL.go (OpR.onb rfl rfl (nb rfl) rfl (h3) (r_move rfl (nb rfl) (by rintro _ ⟨⟩))) ?_
        refine AL.go (OpR.onb rfl rfl (nb rfl) rfl (h3) (r_bin rfl rfl (nb rfl) rfl (run_str_eql _ _))) ?_
        refine AL.go (OpR.plain rfl (r_pickTb rfl (h3) rfl (nb rfl) (by rintro _ ⟨⟩))) ?_
        refine AL.go (OpR.plain rfl (r_assign rfl (nb rfl) (by rintro _ ⟨⟩))) ?_
        refine AL.nil ?_
        refine thenN ?_
        refine AW.ret ?_
        refine fin_id (.inr rfl) (ends_of rfl (.tmp rfl .nil)) ?_ (.cons rfl (Ob.le_refl _) .nil) rfl rfl rfl rfl
        simp only [retA]
        refine A.le_of_eq ?_
        first | (simp_all [Pst.is]; done) | (simp_all [Pst.is]; omega)
      · have h3n := h3; try simp only [dtt, dff, bqi, bqf, bni, bnf, nt1, nf1, nt0, nf0, ne_eq, ilt, ile] at h3n
        refine AL.go (.off rfl rfl (nb rfl) rfl (by rw [h3]; decide) rfl (nb rfl)) ?_
        refine AL.go (.off rfl rfl (nb rfl) rfl (by rw [h3]; decide) rfl (nb rfl)) ?_
        refine AL.go (.off rfl rfl (nb rfl) rfl (by rw [h3]; decide) rfl (nb rfl)) ?_
        refine AL.go (.off rfl rfl (nb rfl) rfl (by rw [h3]; decide) rfl (nb rfl)) ?_
        refine AL.go (OpR.plain rfl (r_pickFb rfl (h3) rfl (nb rfl) (by rintro _ ⟨⟩; rfl))) ?_
        refine AL.go (OpR.plain rfl (r_assign rfl (nb rfl) (by rintro _ ⟨⟩))) ?_
        refine AL.nil ?_
        refine thenN ?_
        refine AW.ret ?_
        refine fin_id (.inr rfl) (ends_of rfl (.tmp rfl .nil)) ?_ (.cons rfl (Ob.le_refl _) .nil) rfl rfl rfl rfl
        simp only [retA]
        refine A.le_of_eq ?_
        first | (simp_all [Pst.is]; done) | (simp_all [Pst.is]; omega)
  · have h1n := h1; try simp only [dtt, dff, bqi, bqf, bni, bnf, nt1, nf1, nt0, nf0, ne_eq, ilt, ile] at h1n
    refine AL.go (.off rfl rfl (nb rfl) rfl (by rw [h1]; decide) rfl (nb rfl)) ?_
    refine AL.go (.off rfl rfl (nb rfl) rfl (by rw [h1]; decide) rfl (nb rfl)) ?_
    refine AL.go (.off rfl rfl (nb rfl) rfl (by rw [h1]; decide) rfl (nb rfl)) ?_
    refine AL.go (.off rfl rfl (nb rfl) rfl (by rw [h1]; decide) rfl (nb rfl)) ?_
    refine AL.go (.offU rfl rfl (nb rfl) rfl rfl (nb rfl)) ?_
    refine AL.go (.offU rfl rfl (nb rfl) rfl rfl (nb rfl)) ?_
    refine AL.go (.offU rfl rfl (nb rfl) rfl rfl (nb rfl)) ?_
    refine AL.go (.off rfl rfl (nb rfl) rfl (by rw [h1]; decide) rfl (nb rfl)) ?_
    refine AL.go (OpR.plain rfl (r_pickFb rfl (h1) rfl (nb rfl) (by rintro _ ⟨⟩; rfl))) ?_
    refine AL.go (OpR.plain rfl (r_move rfl (nb rfl) (by rintro _ ⟨⟩))) ?_
    refine AL.go (.off rfl rfl (nb rfl) rfl (by decide) rfl (nb rfl)) ?_
    refine AL.go (.off rfl rfl (nb rfl) rfl (by decide) rfl (nb rfl)) ?_
    refine AL.go (.off rfl rfl (nb rfl) rfl (by decide) rfl (nb rfl)) ?_
    refine AL.go (.off rfl rfl (nb rfl) rfl (by decide) rfl (nb rfl)) ?_
    refine AL.go (OpR.plain rfl (r_pickFb rfl (rfl) rfl (nb rfl) (by rintro _ ⟨⟩; rfl))) ?_
    refine AL.go (OpR.plain rfl (r_assign rfl (nb rfl) (by rintro _ ⟨⟩))) ?_
    refine AL.nil ?_
    refine thenN ?_
    refine AW.ret ?_
    refine fin_id (.inr rfl) (ends_of rfl (.tmp rfl .nil)) ?_ (.cons rfl (Ob.le_refl _) .nil) rfl rfl rfl rfl
    simp only [retA]
    refine A.le_of_eq ?_
    first | (simp_all [Pst.is]; done) | (simp_all [Pst.is]; omega)

theorem take_s (p : Pst) (h0 : p.Ok) (s : ByteArray) : Am.Spec Tryd.prog 42 [A.c (.ref 0 0), A.val (.string s)] [(0, pbox p)] (A.bool (p.is s)) [(0, pbox (p.take s))] := by
  refine spec_ofN (n := 16) Tryd.func42 rfl rfl (nb rfl) ?_
  show AW _ _ (⟨[(0, A.c (.ref 0 0)), (1, A.val (.string s))], [(0, pbox p)], []⟩ : St) _
  refine AW.seq ?_
  refine AW.region ?_
  refine AL.go (OpR.plain rfl (r_assign rfl (nb rfl) (by rintro _ ⟨⟩; rfl))) ?_
  refine AL.nil ?_
  refine thenN ?_
  refine AW.seq ?_
  refine AW.seq ?_
  refine AW.region ?_
  refine AL.go (OpR.plain rfl (r_move rfl (nb rfl) (by rintro _ ⟨⟩))) ?_
  refine AL.go (OpR.plain rfl (r_move rfl (nb rfl) (by rintro _ ⟨⟩))) ?_
  refine AL.go (OpR.plain rfl (r_callId (is_s p h0 _) en_58 rfl rfl rfl rfl (.cons (A.le_refl _) (.cons (A.le_refl _) .nil)) rfl (.cons rfl .nil) rfl rfl rfl (nb rfl))) ?_
  refine AL.go (OpR.plain rfl (r_not rfl (nb rfl))) ?_
  refine AL.nil ?_
  refine thenN ?_
  refine AW.condb rfl (fun h1 => ?_) (fun h1 => ?_)
  · have h1n := h1; try simp only [dtt, dff, bqi, bqf, bni, bnf, nt1, nf1, nt0, nf0, ne_eq, ilt, ile] at h1n
    refine AW.seq ?_
    refine AW.region ?_
    refine AL.go (OpR.plain rfl (r_assign rfl (nb rfl) (by rintro _ ⟨⟩; rfl))) ?_
    refine AL.nil ?_
    refine thenN ?_
    refine AW.ret ?_
    refine thenR ?_
    refine fin_id (.inr rfl) (ends_of rfl (.tmp rfl .nil)) ?_ (.cons rfl (Ob.le_of_eq (by simp_all [Pst.take, Pst.step])) .nil) rfl rfl rfl rfl
    simp only [retA]
    refine A.le_of_eq ?_
    first | (simp_all []; done) | (simp_all []; omega)
  · have h1n := h1; try simp only [dtt, dff, bqi, bqf, bni, bnf, nt1, nf1, nt0, nf0, ne_eq, ilt, ile] at h1n
    refine AW.skip ?_
    refine thenN ?_
    refine AW.seq ?_
    refine AW.region ?_
    refine AL.go (OpR.plain rfl (r_move rfl (nb rfl) (by rintro _ ⟨⟩))) ?_
    first | refine AL.go (OpR.plain rfl (r_nilCheck rfl (.inl ⟨_, _, rfl⟩) (nb rfl))) ?_ | refine AL.go (OpR.plain rfl (r_nilCheck rfl (.inr ⟨_, rfl⟩) (nb rfl))) ?_
    first | refine AL.go (OpR.plain rfl (r_fieldAddr fo_52_1 (by decide) rfl (nb rfl))) ?_ | refine AL.go (OpR.plain rfl (r_fieldAddrp fo_52_1 (by decide) rfl (nb rfl))) ?_
    first | refine AL.go (OpR.plain rfl (r_load ti_3 rfl rfl rfl (nb rfl))) ?_ | refine AL.go (OpR.plain rfl (r_loadp ti_3 rfl rfl (nb rfl))) ?_
    refine AL.go (OpR.plain rfl (r_add rfl rfl (nb rfl) (by (have := h0.at_; have := h0.len; omega)) (by (have := h0.at_; have := h0.len; omega)))) ?_
    first | refine AL.go (OpR.plain rfl (r_nilCheck rfl (.inl ⟨_, _, rfl⟩) (nb rfl))) ?_ | refine AL.go (OpR.plain rfl (r_nilCheck rfl (.inr ⟨_, rfl⟩) (nb rfl))) ?_
    first | refine AL.go (OpR.plain rfl (r_fieldAddr fo_52_1 (by decide) rfl (nb rfl))) ?_ | refine AL.go (OpR.plain rfl (r_fieldAddrp fo_52_1 (by decide) rfl (nb rfl))) ?_
    refine AL.go (OpR.plain rfl (r_storeN ti_3 rfl rfl rfl rfl rfl (nb rfl) (by simp only [putAt, tks, tkz, tkn, dps, dpz, cap, nap, apn, lnc, lnn, zad, Nat.reduceAdd, adz]; rfl) (by rintro _ ⟨⟩))) ?_
    refine AL.nil ?_
    refine thenN ?_
    refine AW.seq ?_
    refine AW.region ?_
    refine AL.go (OpR.plain rfl (r_assign rfl (nb rfl) (by rintro _ ⟨⟩; rfl))) ?_
    refine AL.nil ?_
    refine thenN ?_
    refine AW.ret ?_
    refine fin_id (.inr rfl) (ends_of rfl (.tmp rfl .nil)) ?_ (.cons rfl (Ob.le_of_eq (by simp_all [Pst.take, Pst.step])) .nil) rfl rfl rfl rfl
    simp only [retA]
    refine A.le_of_eq ?_
    first | (simp_all []; done) | (simp_all []; omega)

theorem must_s (p : Pst) (h0 : p.Ok) (s : ByteArray) : Am.Spec Tryd.prog 38 [A.c (.ref 0 0), A.val (.string s)] [(0, pbox p)] (A.tup []) [(0, pbox (p.must s))] := by
  refine spec_ofN (n := 10) Tryd.func38 rfl rfl (nb rfl) ?_
  show AW _ _ (⟨[(0, A.c (.ref 0 0)), (1, A.val (.string s))], [(0, pbox p)], []⟩ : St) _
  refine AW.seq ?_
  refine AW.region ?_
  refine AL.go (OpR.plain rfl (r_move rfl (nb rfl) (by rintro _ ⟨⟩))) ?_
  refine AL.go (OpR.plain rfl (r_move rfl (nb rfl) (by rintro _ ⟨⟩))) ?_
  refine AL.go (OpR.plain rfl (r_callId (take_s p h0 _) en_42 rfl rfl rfl rfl (.cons (A.le_refl _) (.cons (A.le_refl _) .nil)) rfl (.cons rfl .nil) rfl rfl rfl (nb rfl))) ?_
  refine AL.go (OpR.plain rfl (r_not rfl (nb rfl))) ?_
  refine AL.nil ?_
  refine thenN ?_
  refine AW.condb rfl (fun h1 => ?_) (fun h1 => ?_)
  · have h1n := h1; try simp only [dtt, dff, bqi, bqf, bni, bnf, nt1, nf1, nt0, nf0, ne_eq, ilt, ile] at h1n
    refine AW.region ?_
    refine AL.go (OpR.plain rfl (r_move rfl (nb rfl) (by rintro _ ⟨⟩))) ?_
    refine AL.go (OpR.plain rfl (r_callId (fail_s (p.take s) 1) en_49 rfl rfl rfl rfl (.cons (A.le_refl _) (.cons (A.le_refl _) .nil)) rfl (.cons rfl .nil) rfl rfl rfl (nb rfl))) ?_
    refine AL.nil ?_
    refine fin_id (.inl rfl) (ends_of rfl .nil) ?_ (.cons rfl (Ob.le_of_eq (by simp_all [Pst.must, Pst.take])) .nil) rfl rfl rfl rfl
    simp only [retA]
    exact A.le_refl _
  · have h1n := h1; try simp only [dtt, dff, bqi, bqf, bni, bnf, nt1, nf1, nt0, nf0, ne_eq, ilt, ile] at h1n
    refine AW.skip ?_
    refine fin_id (.inl rfl) (ends_of rfl .nil) ?_ (.cons rfl (Ob.le_of_eq (by simp_all [Pst.must, Pst.take])) .nil) rfl rfl rfl rfl
    simp only [retA]
    exact A.le_refl _

theorem name_s (p : Pst) (h0 : p.Ok) : Am.Spec Tryd.prog 59 [A.c (.ref 0 0)] [(0, pbox p)] (A.val (.string p.name.1)) [(0, pbox (p.name.2))] := by
  refine spec_ofN (n := 20) Tryd.func59 rfl rfl (nb rfl) ?_
  show AW _ _ (⟨[(0, A.c (.ref 0 0))], [(0, pbox p)], []⟩ : St) _
  refine AW.seq ?_
  refine AW.region ?_
  refine AL.go (OpR.plain rfl (r_assign rfl (nb rfl) (by rintro _ ⟨⟩; rfl))) ?_
  refine AL.nil ?_
  refine thenN ?_
  refine AW.seq ?_
  refine AW.region ?_
  refine AL.go (OpR.plain rfl (r_move rfl (nb rfl) (by rintro _ ⟨⟩))) ?_
  refine AL.go (OpR.plain rfl (r_callId (tok_s p h0) en_48 rfl rfl rfl rfl (.cons (A.le_refl _) .nil) rfl (.cons rfl .nil) rfl rfl rfl (nb rfl))) ?_
  refine AL.go (OpR.plain rfl (r_alloc 101 ti_71 zc_71 rfl rfl (nb rfl))) ?_
  refine AL.go (OpR.plain rfl (r_storeN ti_71 rfl rfl rfl rfl rfl (nb rfl) (by simp only [putAt, tks, tkz, tkn, dps, dpz, cap, nap, apn, lnc, lnn, zad, Nat.reduceAdd, adz]; rfl) (by rintro _ ⟨⟩))) ?_
  refine AL.nil ?_
  refine thenN ?_
  refine AW.seq ?_
  refine AW.seq ?_
  refine AW.region ?_
  first | refine AL.go (OpR.plain rfl (r_fieldAddr fo_71_0 (by decide) rfl (nb rfl))) ?_ | refine AL.go (OpR.plain rfl (r_fieldAddrp fo_71_0 (by decide) rfl (nb rfl))) ?_
  first | refine AL.go (OpR.plain rfl (r_load ti_3 rfl rfl rfl (nb rfl))) ?_ | refine AL.go (OpR.plain rfl (r_loadp ti_3 rfl rfl (nb rfl))) ?_
  refine AL.go (OpR.plain rfl (r_bin rfl rfl (nb rfl) rfl (run_int_neq _ _ _))) ?_
  refine AL.nil ?_
  refine thenN ?_
  refine AW.condb rfl (fun h1 => ?_) (fun h1 => ?_)
  · have h1n := h1; try simp only [dtt, dff, bqi, bqf, bni, bnf, nt1, nf1, nt0, nf0, ne_eq, ilt, ile] at h1n
    refine AW.seq ?_
    refine AW.region ?_
    refine AL.go (OpR.plain rfl (r_move rfl (nb rfl) (by rintro _ ⟨⟩))) ?_
    refine AL.go (OpR.plain rfl (r_callId (fail_s p 1) en_49 rfl rfl rfl rfl (.cons (A.le_refl _) (.cons (A.le_refl _) .nil)) rfl (.cons rfl .nil) rfl rfl rfl (nb rfl))) ?_
    refine AL.nil ?_
    refine thenN ?_
    refine AW.seq ?_
    refine AW.region ?_
    refine AL.go (OpR.plain rfl (r_assign rfl (nb rfl) (by rintro _ ⟨⟩; rfl))) ?_
    refine AL.nil ?_
    refine thenN ?_
    refine AW.ret ?_
    refine thenR ?_
    refine fin_id (.inr rfl) (ends_of rfl (.tmp rfl .nil)) ?_ (.cons rfl (Ob.le_of_eq (by simp_all [Pst.name, Pst.step])) .nil) rfl rfl rfl rfl
    simp only [retA]
    refine A.le_of_eq ?_
    first | (simp_all [Pst.name]; done) | (simp_all [Pst.name]; omega)
  · have h1n := h1; try simp only [dtt, dff, bqi, bqf, bni, bnf, nt1, nf1, nt0, nf0, ne_eq, ilt, ile] at h1n
    refine AW.skip ?_
    refine thenN ?_
    refine AW.seq ?_
    refine AW.region ?_
    refine AL.go (OpR.plain rfl (r_move rfl (nb rfl) (by rintro _ ⟨⟩))) ?_
    first | refine AL.go (OpR.plain rfl (r_nilCheck rfl (.inl ⟨_, _, rfl⟩) (nb rfl))) ?_ | refine AL.go (OpR.plain rfl (r_nilCheck rfl (.inr ⟨_, rfl⟩) (nb rfl))) ?_
    first | refine AL.go (OpR.plain rfl (r_fieldAddr fo_52_1 (by decide) rfl (nb rfl))) ?_ | refine AL.go (OpR.plain rfl (r_fieldAddrp fo_52_1 (by decide) rfl (nb rfl))) ?_
    first | refine AL.go (OpR.plain rfl (r_load ti_3 rfl rfl rfl (nb rfl))) ?_ | refine AL.go (OpR.plain rfl (r_loadp ti_3 rfl rfl (nb rfl))) ?_
    refine AL.go (OpR.plain rfl (r_add rfl rfl (nb rfl) (by (have := h0.at_; have := h0.len; omega)) (by (have := h0.at_; have := h0.len; omega)))) ?_
    first | refine AL.go (OpR.plain rfl (r_nilCheck rfl (.inl ⟨_, _, rfl⟩) (nb rfl))) ?_ | refine AL.go (OpR.plain rfl (r_nilCheck rfl (.inr ⟨_, rfl⟩) (nb rfl))) ?_
    first | refine AL.go (OpR.plain rfl (r_fieldAddr fo_52_1 (by decide) rfl (nb rfl))) ?_ | refine AL.go (OpR.plain rfl (r_fieldAddrp fo_52_1 (by decide) rfl (nb rfl))) ?_
    refine AL.go (OpR.plain rfl (r_storeN ti_3 rfl rfl rfl rfl rfl (nb rfl) (by simp only [putAt, tks, tkz, tkn, dps, dpz, cap, nap, apn, lnc, lnn, zad, Nat.reduceAdd, adz]; rfl) (by rintro _ ⟨⟩))) ?_
    refine AL.nil ?_
    refine thenN ?_
    refine AW.seq ?_
    refine AW.region ?_
    first | refine AL.go (OpR.plain rfl (r_fieldAddr fo_71_1 (by decide) rfl (nb rfl))) ?_ | refine AL.go (OpR.plain rfl (r_fieldAddrp fo_71_1 (by decide) rfl (nb rfl))) ?_
    first | refine AL.go (OpR.plain rfl (r_load ti_9 rfl rfl rfl (nb rfl))) ?_ | refine AL.go (OpR.plain rfl (r_loadp ti_9 rfl rfl (nb rfl))) ?_
    refine AL.go (OpR.plain rfl (r_assign rfl (nb rfl) (by rintro _ ⟨⟩))) ?_
    refine AL.nil ?_
    refine thenN ?_
    refine AW.ret ?_
    refine fin_id (.inr rfl) (ends_of rfl (.tmp rfl .nil)) ?_ (.cons rfl (Ob.le_of_eq (by simp_all [Pst.name, Pst.step])) .nil) rfl rfl rfl rfl
    simp only [retA]
    refine A.le_of_eq ?_
    first | (simp_all [Pst.name]; done) | (simp_all [Pst.name]; omega)

theorem col_s (a b : ByteArray) : Am.Spec Tryd.prog 60 [A.val (.string a), A.val (.string b)] [] (exA (exCol a b)) [] := by
  refine spec_ofN (n := 8) Tryd.func60 rfl rfl (nb rfl) ?_
  show AW _ _ (⟨[(0, A.val (.string a)), (1, A.val (.string b))], [], []⟩ : St) _
  refine AW.seq ?_
  refine AW.region ?_
  refine AL.go (OpR.plain rfl (r_alloc 101 ti_27 zc_27 rfl rfl (nb rfl))) ?_
  refine AL.nil ?_
  refine thenN ?_
  refine AW.seq ?_
  refine AW.region ?_
  refine AL.go (OpR.plain rfl (r_move rfl (nb rfl) (by rintro _ ⟨⟩))) ?_
  refine AL.go (OpR.plain rfl (r_move rfl (nb rfl) (by rintro _ ⟨⟩))) ?_
  refine AL.go (OpR.plain rfl (r_build pl_27 rfl zc_27 rfl rfl (by simp only [fillC, putAt, gez, ges, if_true, and_self, Nat.reduceLeDiff, true_and, tks, tkz, tkn, dps, dpz, cap, nap, apn, lnc, lnn, zad, Nat.reduceAdd, adz]; rfl) (nb rfl))) ?_
  refine AL.go (OpR.plain rfl (r_storeN ti_27 rfl rfl rfl rfl rfl (nb rfl) (by simp only [putAt, tks, tkz, tkn, dps, dpz, cap, nap, apn, lnc, lnn, zad, Nat.reduceAdd, adz]; rfl) (by rintro _ ⟨⟩))) ?_
  refine AL.nil ?_
  refine thenN ?_
  refine AW.ret ?_
  refine fin_id (.inr rfl) (ends_of rfl (.cell ti_27 rfl rfl (by simp only [loaded, if_true, ler, tks, tkz, tkn, dps, dpz, cap, nap, apn, lnc, lnn, zad, Nat.reduceAdd, adz]; rfl) .nil)) ?_ .nil rfl rfl rfl rfl
  simp only [retA]
  exact A.le_agg (.cons (by first | exact C.le_refl _ | exact C.le_nil | exact C.le_nn | exact C.le_own) (.cons (by first | exact C.le_refl _ | exact C.le_nil | exact C.le_nn | exact C.le_own) (.cons (by first | exact C.le_refl _ | exact C.le_nil | exact C.le_nn | exact C.le_own) (.cons (by first | exact C.le_refl _ | exact C.le_nil | exact C.le_nn | exact C.le_own) (.cons (by first | exact C.le_refl _ | exact C.le_nil | exact C.le_nn | exact C.le_own) (.cons (by first | exact C.le_refl _ | exact C.le_nil | exact C.le_nn | exact C.le_own) (.cons (by first | exact C.le_refl _ | exact C.le_nil | exact C.le_nn | exact C.le_own) (.cons (by first | exact C.le_refl _ | exact C.le_nil | exact C.le_nn | exact C.le_own) (.cons (by first | exact C.le_refl _ | exact C.le_nil | exact C.le_nn | exact C.le_own) .nil)))))))))

theorem null_s  : Am.Spec Tryd.prog 103 [] [] (valA Val.null) [] := by
  refine spec_ofN (n := 2) Tryd.func103 rfl rfl (nb rfl) ?_
  show AW _ _ (⟨[], [], []⟩ : St) _
  refine AW.seq ?_
  refine AW.region ?_
  refine AL.go (OpR.plain rfl (r_alloc 101 ti_24 zc_24 rfl rfl (nb rfl))) ?_
  refine AL.nil ?_
  refine thenN ?_
  refine AW.seq ?_
  refine AW.region ?_
  refine AL.go (OpR.plain rfl (r_build pl_24 rfl zc_24 rfl rfl (by simp only [fillC, putAt, gez, ges, if_true, and_self, Nat.reduceLeDiff, true_and, tks, tkz, tkn, dps, dpz, cap, nap, apn, lnc, lnn, zad, Nat.reduceAdd, adz]; rfl) (nb rfl))) ?_
  refine AL.go (OpR.plain rfl (r_storeN ti_24 rfl rfl rfl rfl rfl (nb rfl) (by simp only [putAt, tks, tkz, tkn, dps, dpz, cap, nap, apn, lnc, lnn, zad, Nat.reduceAdd, adz]; rfl) (by rintro _ ⟨⟩))) ?_
  refine AL.nil ?_
  refine thenN ?_
  refine AW.ret ?_
  refine fin_id (.inr rfl) (ends_of rfl (.cell ti_24 rfl rfl (by simp only [loaded, if_true, ler, tks, tkz, tkn, dps, dpz, cap, nap, apn, lnc, lnn, zad, Nat.reduceAdd, adz]; rfl) .nil)) ?_ .nil rfl rfl rfl rfl
  simp only [retA]
  exact A.le_refl _

theorem val_s (v : Val) : Am.Spec Tryd.prog 100 [valA v] [] (exA (exVal v)) [] := by
  refine spec_ofN (n := 5) Tryd.func100 rfl rfl (nb rfl) ?_
  show AW _ _ (⟨[(0, valA v)], [], []⟩ : St) _
  refine AW.seq ?_
  refine AW.region ?_
  refine AL.go (OpR.plain rfl (r_box 101 rfl rfl rfl (nb rfl) (by rintro _ ⟨⟩))) ?_
  refine AL.go (OpR.plain rfl (r_alloc 102 ti_27 zc_27 rfl rfl (nb rfl))) ?_
  refine AL.nil ?_
  refine thenN ?_
  refine AW.seq ?_
  refine AW.region ?_
  first | refine AL.go (OpR.plain rfl (r_load ti_24 rfl rfl (by simp only [loaded, mpc, mpn, if_true, ler, tks, tkz, tkn, dps, dpz, cap, nap, apn, lnc, lnn, zad, Nat.reduceAdd, adz]; rfl) (nb rfl))) ?_ | refine AL.go (OpR.plain rfl (r_loadp ti_24 rfl (by simp only [loaded, mpc, mpn, if_true, ler, tks, tkz, tkn, dps, dpz, cap, nap, apn, lnc, lnn, zad, Nat.reduceAdd, adz]; rfl) (nb rfl))) ?_
  refine AL.go (OpR.plain rfl (r_build pl_27 rfl zc_27 rfl rfl (by simp only [fillC, putAt, gez, ges, if_true, and_self, Nat.reduceLeDiff, true_and, tks, tkz, tkn, dps, dpz, cap, nap, apn, lnc, lnn, zad, Nat.reduceAdd, adz]; rfl) (nb rfl))) ?_
  refine AL.go (OpR.plain rfl (r_storeN ti_27 rfl rfl rfl rfl rfl (nb rfl) (by simp only [putAt, tks, tkz, tkn, dps, dpz, cap, nap, apn, lnc, lnn, zad, Nat.reduceAdd, adz]; rfl) (by rintro _ ⟨⟩))) ?_
  refine AL.nil ?_
  refine thenN ?_
  refine AW.ret ?_
  refine fin_id (.inr rfl) (ends_of rfl (.cell ti_27 rfl rfl (by simp only [loaded, if_true, ler, tks, tkz, tkn, dps, dpz, cap, nap, apn, lnc, lnn, zad, Nat.reduceAdd, adz]; rfl) .nil)) ?_ .nil rfl rfl rfl rfl
  simp only [retA]
  exact A.le_agg (.cons (by first | exact C.le_refl _ | exact C.le_nil | exact C.le_nn | exact C.le_own) (.cons (by first | exact C.le_refl _ | exact C.le_nil | exact C.le_nn | exact C.le_own) (.cons (by first | exact C.le_refl _ | exact C.le_nil | exact C.le_nn | exact C.le_own) (.cons (by first | exact C.le_refl _ | exact C.le_nil | exact C.le_nn | exact C.le_own) (.cons (by first | exact C.le_refl _ | exact C.le_nil | exact C.le_nn | exact C.le_own) (.cons (by first | exact C.le_refl _ | exact C.le_nil | exact C.le_nn | exact C.le_own) (.cons (by first | exact C.le_refl _ | exact C.le_nil | exact C.le_nn | exact C.le_own) (.cons (by first | exact C.le_refl _ | exact C.le_nil | exact C.le_nn | exact C.le_own) (.cons (by first | exact C.le_refl _ | exact C.le_nil | exact C.le_nn | exact C.le_own) .nil)))))))))

theorem int_s (n : Int) : Am.Spec Tryd.prog 101 [A.i64 n] [] (valA ⟨1, n, bs0⟩) [] := by
  refine spec_ofN (n := 5) Tryd.func101 rfl rfl (nb rfl) ?_
  show AW _ _ (⟨[(0, A.i64 n)], [], []⟩ : St) _
  refine AW.seq ?_
  refine AW.region ?_
  refine AL.go (OpR.plain rfl (r_alloc 101 ti_24 zc_24 rfl rfl (nb rfl))) ?_
  refine AL.nil ?_
  refine thenN ?_
  refine AW.seq ?_
  refine AW.region ?_
  refine AL.go (OpR.plain rfl (r_move rfl (nb rfl) (by rintro _ ⟨⟩))) ?_
  refine AL.go (OpR.plain rfl (r_build pl_24 rfl zc_24 rfl rfl (by simp only [fillC, putAt, gez, ges, if_true, and_self, Nat.reduceLeDiff, true_and, tks, tkz, tkn, dps, dpz, cap, nap, apn, lnc, lnn, zad, Nat.reduceAdd, adz]; rfl) (nb rfl))) ?_
  refine AL.go (OpR.plain rfl (r_storeN ti_24 rfl rfl rfl rfl rfl (nb rfl) (by simp only [putAt, tks, tkz, tkn, dps, dpz, cap, nap, apn, lnc, lnn, zad, Nat.reduceAdd, adz]; rfl) (by rintro _ ⟨⟩))) ?_
  refine AL.nil ?_
  refine thenN ?_
  refine AW.ret ?_
  refine fin_id (.inr rfl) (ends_of rfl (.cell ti_24 rfl rfl (by simp only [loaded, if_true, ler, tks, tkz, tkn, dps, dpz, cap, nap, apn, lnc, lnn, zad, Nat.reduceAdd, adz]; rfl) .nil)) ?_ .nil rfl rfl rfl rfl
  simp only [retA]
  exact A.le_refl _

theorem text_s (s : ByteArray) (h : s.size ≤ 65536) : Am.Spec Tryd.prog 102 [A.val (.string s)] [] (valA ⟨2, 0, s⟩) [] := by
  refine spec_ofN (n := 9) Tryd.func102 rfl rfl (nb rfl) ?_
  show AW _ _ (⟨[(0, A.val (.string s))], [], []⟩ : St) _
  refine AW.seq ?_
  refine AW.region ?_
  refine AL.go (OpR.plain rfl (r_alloc 101 ti_24 zc_24 rfl rfl (nb rfl))) ?_
  refine AL.nil ?_
  refine thenN ?_
  refine AW.seq ?_
  refine AW.seq ?_
  refine AW.region ?_
  refine AL.go (OpR.plain rfl (r_move rfl (nb rfl) (by rintro _ ⟨⟩))) ?_
  refine AL.go (OpR.plain rfl (r_lens un_9 rfl (nb rfl))) ?_
  refine AL.go (OpR.plain rfl (r_bin rfl rfl (nb rfl) rfl (run_int_gtr _ _ _))) ?_
  refine AL.nil ?_
  refine thenN ?_
  refine AW.condb rfl (fun h1 => ?_) (fun h1 => ?_)
  · exfalso; simp at h1; omega
  · have h1n := h1; try simp only [dtt, dff, bqi, bqf, bni, bnf, nt1, nf1, nt0, nf0, ne_eq, ilt, ile] at h1n
    refine AW.skip ?_
    refine thenN ?_
    refine AW.seq ?_
    refine AW.region ?_
    refine AL.go (OpR.plain rfl (r_move rfl (nb rfl) (by rintro _ ⟨⟩))) ?_
    refine AL.go (OpR.plain rfl (r_build pl_24 rfl zc_24 rfl rfl (by simp only [fillC, putAt, gez, ges, if_true, and_self, Nat.reduceLeDiff, true_and, tks, tkz, tkn, dps, dpz, cap, nap, apn, lnc, lnn, zad, Nat.reduceAdd, adz]; rfl) (nb rfl))) ?_
    refine AL.go (OpR.plain rfl (r_storeN ti_24 rfl rfl rfl rfl rfl (nb rfl) (by simp only [putAt, tks, tkz, tkn, dps, dpz, cap, nap, apn, lnc, lnn, zad, Nat.reduceAdd, adz]; rfl) (by rintro _ ⟨⟩))) ?_
    refine AL.nil ?_
    refine thenN ?_
    refine AW.ret ?_
    refine fin_id (.inr rfl) (ends_of rfl (.cell ti_24 rfl rfl (by simp only [loaded, if_true, ler, tks, tkz, tkn, dps, dpz, cap, nap, apn, lnc, lnn, zad, Nat.reduceAdd, adz]; rfl) .nil)) ?_ .nil rfl rfl rfl rfl
    simp only [retA]
    exact A.le_refl _

theorem end_s (p : Pst) (h0 : p.Ok) : Am.Spec Tryd.prog 24 [A.c (.ref 0 0)] [(0, pbox p)] (A.tup []) [(0, pbox ((if p.e = 0 ∧ p.tok.kind ≠ 0 then p.fail 1 else p)))] := by
  refine spec_ofN (n := 12) Tryd.func24 rfl rfl (nb rfl) ?_
  show AW _ _ (⟨[(0, A.c (.ref 0 0))], [(0, pbox p)], []⟩ : St) _
  refine AW.seq ?_
  refine AW.region ?_
  refine AL.go (OpR.plain rfl (r_move rfl (nb rfl) (by rintro _ ⟨⟩))) ?_
  refine AL.go (OpR.plain rfl (r_callId (ok_s p) en_25 rfl rfl rfl rfl (.cons (A.le_refl _) .nil) rfl (.cons rfl .nil) rfl rfl rfl (nb rfl))) ?_
  refine AL.go (OpR.plain rfl (r_move rfl (nb rfl) (by rintro _ ⟨⟩))) ?_
  refine AL.ifb (t := 4) rfl (fun h1 => ?_) (fun h1 => ?_)
  · have h1n := h1; try simp only [dtt, dff, bqi, bqf, bni, bnf, nt1, nf1, nt0, nf0, ne_eq, ilt, ile] at h1n
    refine AL.go (OpR.onb rfl rfl (nb rfl) rfl (h1) (r_move rfl (nb rfl) (by rintro _ ⟨⟩))) ?_
    refine AL.go (OpR.onb rfl rfl (nb rfl) rfl (h1) (r_callId (tok_s p h0) en_48 rfl rfl rfl rfl (.cons (A.le_refl _) .nil) rfl (.cons rfl .nil) rfl rfl rfl (nb rfl))) ?_
    refine AL.go (OpR.onb rfl rfl (nb rfl) rfl (h1) (r_field fo_71_0 rfl (by first | rfl | (simp only [fieldA, loaded, tks, tkz, tkn, dps, dpz, cap, nap, apn, lnc, lnn, zad, Nat.reduceAdd, adz]; rfl)) (nb rfl))) ?_
    refine AL.go (OpR.onb rfl rfl (nb rfl) rfl (h1) (r_bin rfl rfl (nb rfl) rfl (run_int_neq _ _ _))) ?_
    refine AL.go (OpR.plain rfl (r_pickTb rfl (h1) rfl (nb rfl) (by rintro _ ⟨⟩))) ?_
    refine AL.nil ?_
    refine thenN ?_
    refine AW.condb rfl (fun h2 => ?_) (fun h2 => ?_)
    · have h2n := h2; try simp only [dtt, dff, bqi, bqf, bni, bnf, nt1, nf1, nt0, nf0, ne_eq, ilt, ile] at h2n
      refine AW.region ?_
      refine AL.go (OpR.plain rfl (r_move rfl (nb rfl) (by rintro _ ⟨⟩))) ?_
      refine AL.go (OpR.plain rfl (r_callId (fail_s p 1) en_49 rfl rfl rfl rfl (.cons (A.le_refl _) (.cons (A.le_refl _) .nil)) rfl (.cons rfl .nil) rfl rfl rfl (nb rfl))) ?_
      refine AL.nil ?_
      refine fin_id (.inl rfl) (ends_of rfl .nil) ?_ (.cons rfl (Ob.le_of_eq (by simp_all)) .nil) rfl rfl rfl rfl
      simp only [retA]
      exact A.le_refl _
    · have h2n := h2; try simp only [dtt, dff, bqi, bqf, bni, bnf, nt1, nf1, nt0, nf0, ne_eq, ilt, ile] at h2n
      refine AW.skip ?_
      refine fin_id (.inl rfl) (ends_of rfl .nil) ?_ (.cons rfl (Ob.le_of_eq (by simp_all)) .nil) rfl rfl rfl rfl
      simp only [retA]
      exact A.le_refl _
  · have h1n := h1; try simp only [dtt, dff, bqi, bqf, bni, bnf, nt1, nf1, nt0, nf0, ne_eq, ilt, ile] at h1n
    refine AL.go (.off rfl rfl (nb rfl) rfl (by rw [h1]; decide) rfl (nb rfl)) ?_
    refine AL.go (.off rfl rfl (nb rfl) rfl (by rw [h1]; decide) rfl (nb rfl)) ?_
    refine AL.go (.off rfl rfl (nb rfl) rfl (by rw [h1]; decide) rfl (nb rfl)) ?_
    refine AL.go (.off rfl rfl (nb rfl) rfl (by rw [h1]; decide) rfl (nb rfl)) ?_
    refine AL.go (OpR.plain rfl (r_pickFb rfl (h1) rfl (nb rfl) (by rintro _ ⟨⟩; rfl))) ?_
    refine AL.nil ?_
    refine thenN ?_
    refine AW.condF rfl (rfl) ?_
    refine AW.skip ?_
    refine fin_id (.inl rfl) (ends_of rfl .nil) ?_ (.cons rfl (Ob.le_of_eq (by simp_all)) .nil) rfl rfl rfl rfl
    simp only [retA]
    exact A.le_refl _

theorem opOf_s (s : ByteArray) : Am.Spec Tryd.prog 62 [A.val (.string s)] [] (A.i64 (opOf s)) [] := by
  refine spec_ofN (n := 26) Tryd.func62 rfl rfl (nb rfl) ?_
  show AW _ _ (⟨[(0, A.val (.string s))], [], []⟩ : St) _
  refine AW.seq ?_
  refine AW.region ?_
  refine AL.go (OpR.plain rfl (r_assign rfl (nb rfl) (by rintro _ ⟨⟩; rfl))) ?_
  refine AL.nil ?_
  refine thenN ?_
  refine AW.seq ?_
  refine AW.seq ?_
  refine AW.region ?_
  refine AL.go (OpR.plain rfl (r_move rfl (nb rfl) (by rintro _ ⟨⟩))) ?_
  refine AL.nil ?_
  refine thenN ?_
  refine AW.block ?_
  refine AW.seq ?_
  refine AW.region ?_
  refine AL.go (OpR.plain rfl (r_bin rfl rfl (nb rfl) rfl (run_str_eql _ _))) ?_
  refine AL.go (OpR.plain rfl (r_assign rfl (nb rfl) (by rintro _ ⟨⟩))) ?_
  refine AL.nil ?_
  refine thenN ?_
  refine AW.condb rfl (fun h1 => ?_) (fun h1 => ?_)
  · have h1n := h1; try simp only [dtt, dff, bqi, bqf, bni, bnf, nt1, nf1, nt0, nf0, ne_eq, ilt, ile] at h1n
    refine AW.seq ?_
    refine AW.region ?_
    refine AL.go (OpR.plain rfl (r_assign rfl (nb rfl) (by rintro _ ⟨⟩; rfl))) ?_
    refine AL.nil ?_
    refine thenN ?_
    refine AW.ret ?_
    refine inbR ?_
    refine thenR ?_
    refine fin_id (.inr rfl) (ends_of rfl (.tmp rfl .nil)) ?_ .nil rfl rfl rfl rfl
    simp only [retA]
    refine A.le_of_eq ?_
    first | (simp_all [opOf]; done) | (simp_all [opOf]; omega)
  · have h1n := h1; try simp only [dtt, dff, bqi, bqf, bni, bnf, nt1, nf1, nt0, nf0, ne_eq, ilt, ile] at h1n
    refine AW.seq ?_
    refine AW.region ?_
    refine AL.go (OpR.plain rfl (r_bin rfl rfl (nb rfl) rfl (run_str_eql _ _))) ?_
    refine AL.go (OpR.plain rfl (r_assign rfl (nb rfl) (by rintro _ ⟨⟩))) ?_
    refine AL.nil ?_
    refine thenN ?_
    refine AW.condb rfl (fun h2 => ?_) (fun h2 => ?_)
    · have h2n := h2; try simp only [dtt, dff, bqi, bqf, bni, bnf, nt1, nf1, nt0, nf0, ne_eq, ilt, ile] at h2n
      refine AW.seq ?_
      refine AW.region ?_
      refine AL.go (OpR.plain rfl (r_assign rfl (nb rfl) (by rintro _ ⟨⟩; rfl))) ?_
      refine AL.nil ?_
      refine thenN ?_
      refine AW.ret ?_
      refine inbR ?_
      refine thenR ?_
      refine fin_id (.inr rfl) (ends_of rfl (.tmp rfl .nil)) ?_ .nil rfl rfl rfl rfl
      simp only [retA]
      refine A.le_of_eq ?_
      first | (simp_all [opOf]; done) | (simp_all [opOf]; omega)
    · have h2n := h2; try simp only [dtt, dff, bqi, bqf, bni, bnf, nt1, nf1, nt0, nf0, ne_eq, ilt, ile] at h2n
      refine AW.seq ?_
      refine AW.region ?_
      refine AL.go (OpR.plain rfl (r_bin rfl rfl (nb rfl) rfl (run_str_eql _ _))) ?_
      refine AL.go (OpR.plain rfl (r_assign rfl (nb rfl) (by rintro _ ⟨⟩))) ?_
      refine AL.nil ?_
      refine thenN ?_
      refine AW.condb rfl (fun h3 => ?_) (fun h3 => ?_)
      · have h3n := h3; try simp only [dtt, dff, bqi, bqf, bni, bnf, nt1, nf1, nt0, nf0, ne_eq, ilt, ile] at h3n
        refine AW.seq ?_
        refine AW.region ?_
        refine AL.go (OpR.plain rfl (r_assign rfl (nb rfl) (by rintro _ ⟨⟩; rfl))) ?_
        refine AL.nil ?_
        refine thenN ?_
        refine AW.ret ?_
        refine inbR ?_
        refine thenR ?_
        refine fin_id (.inr rfl) (ends_of rfl (.tmp rfl .nil)) ?_ .nil rfl rfl rfl rfl
        simp only [retA]
        refine A.le_of_eq ?_
        first | (simp_all [opOf]; done) | (simp_all [opOf]; omega)
      · have h3n := h3; try simp only [dtt, dff, bqi, bqf, bni, bnf, nt1, nf1, nt0, nf0, ne_eq, ilt, ile] at h3n
        refine AW.seq ?_
        refine AW.region ?_
        refine AL.go (OpR.plain rfl (r_bin rfl rfl (nb rfl) rfl (run_str_eql _ _))) ?_
        refine AL.go (OpR.plain rfl (r_assign rfl (nb rfl) (by rintro _ ⟨⟩))) ?_
        refine AL.nil ?_
        refine thenN ?_
        refine AW.condb rfl (fun h4 => ?_) (fun h4 => ?_)
        · have h4n := h4; try simp only [dtt, dff, bqi, bqf, bni, bnf, nt1, nf1, nt0, nf0, ne_eq, ilt, ile] at h4n
          refine AW.seq ?_
          refine AW.region ?_
          refine AL.go (OpR.plain rfl (r_assign rfl (nb rfl) (by rintro _ ⟨⟩; rfl))) ?_
          refine AL.nil ?_
          refine thenN ?_
          refine AW.ret ?_
          refine inbR ?_
          refine thenR ?_
          refine fin_id (.inr rfl) (ends_of rfl (.tmp rfl .nil)) ?_ .nil rfl rfl rfl rfl
          simp only [retA]
          refine A.le_of_eq ?_
          first | (simp_all [opOf]; done) | (simp_all [opOf]; omega)
        · have h4n := h4; try simp only [dtt, dff, bqi, bqf, bni, bnf, nt1, nf1, nt0, nf0, ne_eq, ilt, ile] at h4n
          refine AW.seq ?_
          refine AW.region ?_
          refine AL.go (OpR.plain rfl (r_bin rfl rfl (nb rfl) rfl (run_str_eql _ _))) ?_
          refine AL.go (OpR.plain rfl (r_assign rfl (nb rfl) (by rintro _ ⟨⟩))) ?_
          refine AL.nil ?_
          refine thenN ?_
          refine AW.condb rfl (fun h5 => ?_) (fun h5 => ?_)
          · have h5n := h5; try simp only [dtt, dff, bqi, bqf, bni, bnf, nt1, nf1, nt0, nf0, ne_eq, ilt, ile] at h5n
            refine AW.seq ?_
            refine AW.region ?_
            refine AL.go (OpR.plain rfl (r_assign rfl (nb rfl) (by rintro _ ⟨⟩; rfl))) ?_
            refine AL.nil ?_
            refine thenN ?_
            refine AW.ret ?_
            refine inbR ?_
            refine thenR ?_
            refine fin_id (.inr rfl) (ends_of rfl (.tmp rfl .nil)) ?_ .nil rfl rfl rfl rfl
            simp only [retA]
            refine A.le_of_eq ?_
            first | (simp_all [opOf]; done) | (simp_all [opOf]; omega)
          · have h5n := h5; try simp only [dtt, dff, bqi, bqf, bni, bnf, nt1, nf1, nt0, nf0, ne_eq, ilt, ile] at h5n
            refine AW.seq ?_
            refine AW.region ?_
            refine AL.go (OpR.plain rfl (r_bin rfl rfl (nb rfl) rfl (run_str_eql _ _))) ?_
            refine AL.go (OpR.plain rfl (r_assign rfl (nb rfl) (by rintro _ ⟨⟩))) ?_
            refine AL.nil ?_
            refine thenN ?_
            refine AW.condb rfl (fun h6 => ?_) (fun h6 => ?_)
            · have h6n := h6; try simp only [dtt, dff, bqi, bqf, bni, bnf, nt1, nf1, nt0, nf0, ne_eq, ilt, ile] at h6n
              refine AW.seq ?_
              refine AW.region ?_
              refine AL.go (OpR.plain rfl (r_assign rfl (nb rfl) (by rintro _ ⟨⟩; rfl))) ?_
              refine AL.nil ?_
              refine thenN ?_
              refine AW.ret ?_
              refine inbR ?_
              refine thenR ?_
              refine fin_id (.inr rfl) (ends_of rfl (.tmp rfl .nil)) ?_ .nil rfl rfl rfl rfl
              simp only [retA]
              refine A.le_of_eq ?_
              first | (simp_all [opOf]; done) | (simp_all [opOf]; omega)
            · have h6n := h6; try simp only [dtt, dff, bqi, bqf, bni, bnf, nt1, nf1, nt0, nf0, ne_eq, ilt, ile] at h6n
              refine AW.seq ?_
              refine AW.region ?_
              refine AL.go (OpR.plain rfl (r_bin rfl rfl (nb rfl) rfl (run_str_eql _ _))) ?_
              refine AL.go (OpR.plain rfl (r_assign rfl (nb rfl) (by rintro _ ⟨⟩))) ?_
              refine AL.nil ?_
              refine thenN ?_
              refine AW.condb rfl (fun h7 => ?_) (fun h7 => ?_)
              · have h7n := h7; try simp only [dtt, dff, bqi, bqf, bni, bnf, nt1, nf1, nt0, nf0, ne_eq, ilt, ile] at h7n
                refine AW.seq ?_
                refine AW.region ?_
                refine AL.go (OpR.plain rfl (r_assign rfl (nb rfl) (by rintro _ ⟨⟩; rfl))) ?_
                refine AL.nil ?_
                refine thenN ?_
                refine AW.ret ?_
                refine inbR ?_
                refine thenR ?_
                refine fin_id (.inr rfl) (ends_of rfl (.tmp rfl .nil)) ?_ .nil rfl rfl rfl rfl
                simp only [retA]
                refine A.le_of_eq ?_
                first | (simp_all [opOf]; done) | (simp_all [opOf]; omega)
              · have h7n := h7; try simp only [dtt, dff, bqi, bqf, bni, bnf, nt1, nf1, nt0, nf0, ne_eq, ilt, ile] at h7n
                refine AW.seq ?_
                refine AW.region ?_
                refine AL.go (OpR.plain rfl (r_bin rfl rfl (nb rfl) rfl (run_str_eql _ _))) ?_
                refine AL.go (OpR.plain rfl (r_assign rfl (nb rfl) (by rintro _ ⟨⟩))) ?_
                refine AL.nil ?_
                refine thenN ?_
                refine AW.condb rfl (fun h8 => ?_) (fun h8 => ?_)
                · have h8n := h8; try simp only [dtt, dff, bqi, bqf, bni, bnf, nt1, nf1, nt0, nf0, ne_eq, ilt, ile] at h8n
                  refine AW.seq ?_
                  refine AW.region ?_
                  refine AL.go (OpR.plain rfl (r_assign rfl (nb rfl) (by rintro _ ⟨⟩; rfl))) ?_
                  refine AL.nil ?_
                  refine thenN ?_
                  refine AW.ret ?_
                  refine inbR ?_
                  refine thenR ?_
                  refine fin_id (.inr rfl) (ends_of rfl (.tmp rfl .nil)) ?_ .nil rfl rfl rfl rfl
                  simp only [retA]
                  refine A.le_of_eq ?_
                  first | (simp_all [opOf]; done) | (simp_all [opOf]; omega)
                · have h8n := h8; try simp only [dtt, dff, bqi, bqf, bni, bnf, nt1, nf1, nt0, nf0, ne_eq, ilt, ile] at h8n
                  refine AW.seq ?_
                  refine AW.region ?_
                  refine AL.go (OpR.plain rfl (r_bin rfl rfl (nb rfl) rfl (run_str_eql _ _))) ?_
                  refine AL.go (OpR.plain rfl (r_assign rfl (nb rfl) (by rintro _ ⟨⟩))) ?_
                  refine AL.nil ?_
                  refine thenN ?_
                  refine AW.condb rfl (fun h9 => ?_) (fun h9 => ?_)
                  · have h9n := h9; try simp only [dtt, dff, bqi, bqf, bni, bnf, nt1, nf1, nt0, nf0, ne_eq, ilt, ile] at h9n
                    refine AW.seq ?_
                    refine AW.region ?_
                    refine AL.go (OpR.plain rfl (r_assign rfl (nb rfl) (by rintro _ ⟨⟩; rfl))) ?_
                    refine AL.nil ?_
                    refine thenN ?_
                    refine AW.ret ?_
                    refine inbR ?_
                    refine thenR ?_
                    refine fin_id (.inr rfl) (ends_of rfl (.tmp rfl .nil)) ?_ .nil rfl rfl rfl rfl
                    simp only [retA]
                    refine A.le_of_eq ?_
                    first | (simp_all [opOf]; done) | (simp_all [opOf]; omega)
                  · have h9n := h9; try simp only [dtt, dff, bqi, bqf, bni, bnf, nt1, nf1, nt0, nf0, ne_eq, ilt, ile] at h9n
                    refine AW.seq ?_
                    refine AW.region ?_
                    refine AL.go (OpR.plain rfl (r_bin rfl rfl (nb rfl) rfl (run_str_eql _ _))) ?_
                    refine AL.go (OpR.plain rfl (r_assign rfl (nb rfl) (by rintro _ ⟨⟩))) ?_
                    refine AL.nil ?_
                    refine thenN ?_
                    refine AW.condb rfl (fun h10 => ?_) (fun h10 => ?_)
                    · have h10n := h10; try simp only [dtt, dff, bqi, bqf, bni, bnf, nt1, nf1, nt0, nf0, ne_eq, ilt, ile] at h10n
                      refine AW.seq ?_
                      refine AW.region ?_
                      refine AL.go (OpR.plain rfl (r_assign rfl (nb rfl) (by rintro _ ⟨⟩; rfl))) ?_
                      refine AL.nil ?_
                      refine thenN ?_
                      refine AW.ret ?_
                      refine inbR ?_
                      refine thenR ?_
                      refine fin_id (.inr rfl) (ends_of rfl (.tmp rfl .nil)) ?_ .nil rfl rfl rfl rfl
                      simp only [retA]
                      refine A.le_of_eq ?_
                      first | (simp_all [opOf]; done) | (simp_all [opOf]; omega)
                    · have h10n := h10; try simp only [dtt, dff, bqi, bqf, bni, bnf, nt1, nf1, nt0, nf0, ne_eq, ilt, ile] at h10n
                      refine AW.seq ?_
                      refine AW.region ?_
                      refine AL.go (OpR.plain rfl (r_bin rfl rfl (nb rfl) rfl (run_str_eql _ _))) ?_
                      refine AL.go (OpR.plain rfl (r_assign rfl (nb rfl) (by rintro _ ⟨⟩))) ?_
                      refine AL.nil ?_
                      refine thenN ?_
                      refine AW.condb rfl (fun h11 => ?_) (fun h11 => ?_)
                      · have h11n := h11; try simp only [dtt, dff, bqi, bqf, bni, bnf, nt1, nf1, nt0, nf0, ne_eq, ilt, ile] at h11n
                        refine AW.seq ?_
                        refine AW.region ?_
                        refine AL.go (OpR.plain rfl (r_assign rfl (nb rfl) (by rintro _ ⟨⟩; rfl))) ?_
                        refine AL.nil ?_
                        refine thenN ?_
                        refine AW.ret ?_
                        refine inbR ?_
                        refine thenR ?_
                        refine fin_id (.inr rfl) (ends_of rfl (.tmp rfl .nil)) ?_ .nil rfl rfl rfl rfl
                        simp only [retA]
                        refine A.le_of_eq ?_
                        first | (simp_all [opOf]; done) | (simp_all [opOf]; omega)
                      · have h11n := h11; try simp only [dtt, dff, bqi, bqf, bni, bnf, nt1, nf1, nt0, nf0, ne_eq, ilt, ile] at h11n
                        refine AW.skip ?_
                        refine inbN ?_
                        refine thenN ?_
                        refine AW.seq ?_
                        refine AW.region ?_
                        refine AL.go (OpR.plain rfl (r_assign rfl (nb rfl) (by rintro _ ⟨⟩; rfl))) ?_
                        refine AL.nil ?_
                        refine thenN ?_
                        refine AW.ret ?_
                        refine fin_id (.inr rfl) (ends_of rfl (.tmp rfl .nil)) ?_ .nil rfl rfl rfl rfl
                        simp only [retA]
                        refine A.le_of_eq ?_
                        first | (simp_all [opOf]; done) | (simp_all [opOf]; omega)

theorem join_s (s : ByteArray) : Am.Spec Tryd.prog 57 [A.val (.string s)] [] (A.i64 (joinOf s)) [] := by
  refine spec_ofN (n := 12) Tryd.func57 rfl rfl (nb rfl) ?_
  show AW _ _ (⟨[(0, A.val (.string s))], [], []⟩ : St) _
  refine AW.seq ?_
  refine AW.region ?_
  refine AL.go (OpR.plain rfl (r_assign rfl (nb rfl) (by rintro _ ⟨⟩; rfl))) ?_
  refine AL.nil ?_
  refine thenN ?_
  refine AW.seq ?_
  refine AW.seq ?_
  refine AW.region ?_
  refine AL.go (OpR.plain rfl (r_move rfl (nb rfl) (by rintro _ ⟨⟩))) ?_
  refine AL.nil ?_
  refine thenN ?_
  refine AW.block ?_
  refine AW.seq ?_
  refine AW.region ?_
  refine AL.go (OpR.plain rfl (r_bin rfl rfl (nb rfl) rfl (run_str_eql _ _))) ?_
  refine AL.go (OpR.plain rfl (r_assign rfl (nb rfl) (by rintro _ ⟨⟩))) ?_
  refine AL.nil ?_
  refine thenN ?_
  refine AW.condb rfl (fun h1 => ?_) (fun h1 => ?_)
  · have h1n := h1; try simp only [dtt, dff, bqi, bqf, bni, bnf, nt1, nf1, nt0, nf0, ne_eq, ilt, ile] at h1n
    refine AW.seq ?_
    refine AW.region ?_
    refine AL.go (OpR.plain rfl (r_assign rfl (nb rfl) (by rintro _ ⟨⟩; rfl))) ?_
    refine AL.nil ?_
    refine thenN ?_
    refine AW.ret ?_
    refine inbR ?_
    refine thenR ?_
    refine fin_id (.inr rfl) (ends_of rfl (.tmp rfl .nil)) ?_ .nil rfl rfl rfl rfl
    simp only [retA]
    refine A.le_of_eq ?_
    first | (simp_all [joinOf]; done) | (simp_all [joinOf]; omega)
  · have h1n := h1; try simp only [dtt, dff, bqi, bqf, bni, bnf, nt1, nf1, nt0, nf0, ne_eq, ilt, ile] at h1n
    refine AW.seq ?_
    refine AW.region ?_
    refine AL.go (OpR.plain rfl (r_bin rfl rfl (nb rfl) rfl (run_str_eql _ _))) ?_
    refine AL.go (OpR.plain rfl (r_assign rfl (nb rfl) (by rintro _ ⟨⟩))) ?_
    refine AL.nil ?_
    refine thenN ?_
    refine AW.condb rfl (fun h2 => ?_) (fun h2 => ?_)
    · have h2n := h2; try simp only [dtt, dff, bqi, bqf, bni, bnf, nt1, nf1, nt0, nf0, ne_eq, ilt, ile] at h2n
      refine AW.seq ?_
      refine AW.region ?_
      refine AL.go (OpR.plain rfl (r_assign rfl (nb rfl) (by rintro _ ⟨⟩; rfl))) ?_
      refine AL.nil ?_
      refine thenN ?_
      refine AW.ret ?_
      refine inbR ?_
      refine thenR ?_
      refine fin_id (.inr rfl) (ends_of rfl (.tmp rfl .nil)) ?_ .nil rfl rfl rfl rfl
      simp only [retA]
      refine A.le_of_eq ?_
      first | (simp_all [joinOf]; done) | (simp_all [joinOf]; omega)
    · have h2n := h2; try simp only [dtt, dff, bqi, bqf, bni, bnf, nt1, nf1, nt0, nf0, ne_eq, ilt, ile] at h2n
      refine AW.seq ?_
      refine AW.region ?_
      refine AL.go (OpR.plain rfl (r_bin rfl rfl (nb rfl) rfl (run_str_eql _ _))) ?_
      refine AL.go (OpR.plain rfl (r_assign rfl (nb rfl) (by rintro _ ⟨⟩))) ?_
      refine AL.nil ?_
      refine thenN ?_
      refine AW.condb rfl (fun h3 => ?_) (fun h3 => ?_)
      · have h3n := h3; try simp only [dtt, dff, bqi, bqf, bni, bnf, nt1, nf1, nt0, nf0, ne_eq, ilt, ile] at h3n
        refine AW.seq ?_
        refine AW.region ?_
        refine AL.go (OpR.plain rfl (r_assign rfl (nb rfl) (by rintro _ ⟨⟩; rfl))) ?_
        refine AL.nil ?_
        refine thenN ?_
        refine AW.ret ?_
        refine inbR ?_
        refine thenR ?_
        refine fin_id (.inr rfl) (ends_of rfl (.tmp rfl .nil)) ?_ .nil rfl rfl rfl rfl
        simp only [retA]
        refine A.le_of_eq ?_
        first | (simp_all [joinOf]; done) | (simp_all [joinOf]; omega)
      · have h3n := h3; try simp only [dtt, dff, bqi, bqf, bni, bnf, nt1, nf1, nt0, nf0, ne_eq, ilt, ile] at h3n
        refine AW.seq ?_
        refine AW.region ?_
        refine AL.go (OpR.plain rfl (r_bin rfl rfl (nb rfl) rfl (run_str_eql _ _))) ?_
        refine AL.go (OpR.plain rfl (r_assign rfl (nb rfl) (by rintro _ ⟨⟩))) ?_
        refine AL.nil ?_
        refine thenN ?_
        refine AW.condb rfl (fun h4 => ?_) (fun h4 => ?_)
        · have h4n := h4; try simp only [dtt, dff, bqi, bqf, bni, bnf, nt1, nf1, nt0, nf0, ne_eq, ilt, ile] at h4n
          refine AW.seq ?_
          refine AW.region ?_
          refine AL.go (OpR.plain rfl (r_assign rfl (nb rfl) (by rintro _ ⟨⟩; rfl))) ?_
          refine AL.nil ?_
          refine thenN ?_
          refine AW.ret ?_
          refine inbR ?_
          refine thenR ?_
          refine fin_id (.inr rfl) (ends_of rfl (.tmp rfl .nil)) ?_ .nil rfl rfl rfl rfl
          simp only [retA]
          refine A.le_of_eq ?_
          first | (simp_all [joinOf]; done) | (simp_all [joinOf]; omega)
        · have h4n := h4; try simp only [dtt, dff, bqi, bqf, bni, bnf, nt1, nf1, nt0, nf0, ne_eq, ilt, ile] at h4n
          refine AW.skip ?_
          refine inbN ?_
          refine thenN ?_
          refine AW.seq ?_
          refine AW.region ?_
          refine AL.go (OpR.plain rfl (r_assign rfl (nb rfl) (by rintro _ ⟨⟩; rfl))) ?_
          refine AL.nil ?_
          refine thenN ?_
          refine AW.ret ?_
          refine fin_id (.inr rfl) (ends_of rfl (.tmp rfl .nil)) ?_ .nil rfl rfl rfl rfl
          simp only [retA]
          refine A.le_of_eq ?_
          first | (simp_all [joinOf]; done) | (simp_all [joinOf]; omega)

end Go.Par
