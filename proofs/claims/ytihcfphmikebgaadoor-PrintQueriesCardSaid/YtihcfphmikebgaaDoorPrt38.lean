import Derived.Test.YtihcfphmikebgaaDoorPrt37
import Derived.Test.YtihcfphmikebgaaDoorAm19
namespace Go.Par
open Go Go.Am Go.Proofs Go.RowKit
set_option linter.unusedVariables false
set_option linter.unusedSimpArgs false

/-- No node has more than two parts. -/
inductive Thin : Ex → Prop where
  | mk {e : Ex} (h : e.l.length ≤ 2) (hs : ∀ x ∈ e.l, Thin x) : Thin e
theorem thin0 {e : Ex} (h : e.l = []) : Thin e := .mk (by rw [h]; decide) (fun x hx => by rw [h] at hx; simp at hx)
theorem thin_of {op : Int} {l : List Ex} (hl : l.length ≤ 2) (h : ∀ x ∈ l, Thin x) : Thin (exOf op l) := .mk hl h
theorem thin_col (p : Pst) : Thin p.col.1 := by
  unfold Pst.col
  split <;> exact thin0 rfl
theorem R_thin : ∀ (n : Nat) (job : Job) (p : Pst), (∀ l e, job = .loop l e → Thin e) → Thin (R n job p).1
  | 0, job, p, h => thin0 rfl
  | n + 1, .loop l e, p, h => by
    have he := h l e rfl
    rw [R]
    split
    · exact he
    · refine R_thin n _ _ (fun l' e' hj => ?_)
      cases hj
      refine thin_of (by simp) (fun x hx => ?_)
      simp only [List.mem_cons, List.not_mem_nil, or_false] at hx
      rcases hx with rfl | rfl
      · exact he
      · exact R_thin n _ _ (fun _ _ hh => by cases hh)
  | n + 1, .parse .not, p, h => by
    rw [R]
    split
    · refine thin_of (by simp) (fun x hx => ?_)
      simp only [List.mem_cons, List.not_mem_nil, or_false] at hx
      subst hx; exact R_thin n _ _ (fun _ _ hh => by cases hh)
    · exact R_thin n _ _ (fun _ _ hh => by cases hh)
  | n + 1, .parse .test, p, h => by
    have hr := R_thin n (.parse .sum) p (fun _ _ hh => by cases hh)
    rw [R]
    generalize R n (.parse .sum) p = r at hr ⊢
    split
    · refine thin_of (by simp) (fun x hx => ?_)
      simp only [List.mem_cons, List.not_mem_nil, or_false] at hx
      rcases hx with rfl | rfl
      · exact hr
      · exact R_thin n _ _ (fun _ _ hh => by cases hh)
    · split
      · refine thin_of (by simp) (fun x hx => ?_)
        simp only [List.mem_cons, List.not_mem_nil, or_false] at hx
        subst hx; exact hr
      · exact hr
  | n + 1, .parse .atom, p, h => by
    rw [R]
    split
    · exact thin0 rfl
    · split
      · exact thin0 rfl
      · split
        · exact thin0 rfl
        · split
          · exact R_thin n _ _ (fun _ _ hh => by cases hh)
          · exact thin_col p
  | n + 1, .parse .or, p, h => R_thin n _ _ (fun l e hh => by cases hh; exact R_thin n _ _ (fun _ _ hh => by cases hh))
  | n + 1, .parse .and, p, h => R_thin n _ _ (fun l e hh => by cases hh; exact R_thin n _ _ (fun _ _ hh => by cases hh))
  | n + 1, .parse .sum, p, h => R_thin n _ _ (fun l e hh => by cases hh; exact R_thin n _ _ (fun _ _ hh => by cases hh))
  | n + 1, .parse .prod, p, h => R_thin n _ _ (fun l e hh => by cases hh; exact R_thin n _ _ (fun _ _ hh => by cases hh))
theorem exprM_thin (n : Nat) (s : ByteArray) : Thin (exprM n s).1 := by
  unfold exprM
  split
  · exact R_thin n _ _ (fun _ _ hh => by cases hh)
  · exact thin0 rfl
abbrev exD (e : Ex) : List D := [.v (.int .i64 e.op), .v (.string e.tab), .v (.string e.name), .v (.int .i64 e.t), .v (.int .i64 e.c), .v (.int .i64 e.val.kind), .v (.int .i64 e.val.i), .v (.string e.val.s), .sl false (Ex.rows e.l)]
theorem rows_map : ∀ (l : List Ex), Ex.rows l = l.map Ex.row
  | [] => rfl
  | e :: l => by rw [Ex.rows, rows_map l]; rfl
theorem ex_at {l : List Ex} {j : Int} (h0 : 0 ≤ j) (h : j < l.length) : (Ex.rows l)[j.toNat]? = some (exD (l.getD j.toNat exZero)) := by
  have : j.toNat < l.length := by omega
  rw [rows_map]
  simp [List.getD_eq_getElem?_getD, this, Ex.row_eq]
theorem ex_mem {l : List Ex} {j : Nat} (h : j < l.length) : l.getD j exZero ∈ l := by
  rw [List.getD_eq_getElem?_getD, List.getElem?_eq_getElem h]
  simp

theorem en_10 : enters Tryd.prog 10 = true := by kernel_rfl
theorem fo_27_3 : fieldOf Tryd.prog 27 3 = some (3, 1, false) := by kernel_rfl
theorem fo_27_4 : fieldOf Tryd.prog 27 4 = some (4, 1, false) := by kernel_rfl

set_option maxHeartbeats 2000000 in
theorem same_s (e : Ex) (hl : e.l.length ≤ 2) (ih : ∀ x ∈ e.l, Am.Fun Tryd.prog 10 [exA x, exA x] (A.bool true)) : Am.Spec Tryd.prog 10 [exA e, exA e] [] (A.bool true) [] := by
  refine spec_ofN (n := 74) Tryd.func10 rfl rfl (nb rfl) ?_
  show AW _ _ (⟨[(0, exA e), (1, exA e)], [], []⟩ : St) _
  refine AW.seq ?_
  refine AW.region ?_
  refine AL.go (OpR.plain rfl (r_box 101 rfl rfl rfl (nb rfl) (by rintro _ ⟨⟩))) ?_
  refine AL.go (OpR.plain rfl (r_box 102 rfl rfl rfl (nb rfl) (by rintro _ ⟨⟩))) ?_
  refine AL.go (OpR.plain rfl (r_assign rfl (nb rfl) (by rintro _ ⟨⟩; rfl))) ?_
  refine AL.nil ?_
  refine thenN ?_
  refine AW.seq ?_
  refine AW.seq ?_
  refine AW.region ?_
  first | refine AL.go (OpR.plain rfl (r_fieldAddr fo_27_0 (by decide) rfl (nb rfl))) ?_ | refine AL.go (OpR.plain rfl (r_fieldAddrp fo_27_0 (by decide) rfl (nb rfl))) ?_
  first | refine AL.go (OpR.plain rfl (r_load ti_3 rfl rfl rfl (nb rfl))) ?_ | refine AL.go (OpR.plain rfl (r_loadp ti_3 rfl rfl (nb rfl))) ?_
  first | refine AL.go (OpR.plain rfl (r_fieldAddr fo_27_0 (by decide) rfl (nb rfl))) ?_ | refine AL.go (OpR.plain rfl (r_fieldAddrp fo_27_0 (by decide) rfl (nb rfl))) ?_
  first | refine AL.go (OpR.plain rfl (r_load ti_3 rfl rfl rfl (nb rfl))) ?_ | refine AL.go (OpR.plain rfl (r_loadp ti_3 rfl rfl (nb rfl))) ?_
  refine AL.go (OpR.plain rfl (r_bin rfl rfl (nb rfl) rfl (run_int_neq _ _ _))) ?_
  refine AL.go (OpR.plain rfl (r_move rfl (nb rfl) (by rintro _ ⟨⟩))) ?_
  refine AL.ifb (t := 11) rfl (fun h1 => ?_) (fun h1 => ?_)
  · have h1n := h1; try simp only [dtt, dff, bqi, bqf, bni, bnf, nt1, nf1, nt0, nf0, ne_eq, ilt, ile, Int.toNat_natCast, rows_length] at h1n
    refine AL.go (.off rfl rfl (nb rfl) rfl (by rw [h1]; decide) rfl (nb rfl)) ?_
    refine AL.go (.off rfl rfl (nb rfl) rfl (by rw [h1]; decide) rfl (nb rfl)) ?_
    refine AL.go (.off rfl rfl (nb rfl) rfl (by rw [h1]; decide) rfl (nb rfl)) ?_
    refine AL.go (.off rfl rfl (nb rfl) rfl (by rw [h1]; decide) rfl (nb rfl)) ?_
    refine AL.go (.off rfl rfl (nb rfl) rfl (by rw [h1]; decide) rfl (nb rfl)) ?_
    refine AL.go (OpR.plain rfl (r_pickTb rfl (h1) rfl (nb rfl) (by rintro _ ⟨⟩; rfl))) ?_
    refine AL.go (OpR.plain rfl (r_move rfl (nb rfl) (by rintro _ ⟨⟩))) ?_
    refine AL.go (.off rfl rfl (nb rfl) rfl (by decide) rfl (nb rfl)) ?_
    refine AL.go (.off rfl rfl (nb rfl) rfl (by decide) rfl (nb rfl)) ?_
    refine AL.go (.off rfl rfl (nb rfl) rfl (by decide) rfl (nb rfl)) ?_
    refine AL.go (.off rfl rfl (nb rfl) rfl (by decide) rfl (nb rfl)) ?_
    refine AL.go (.off rfl rfl (nb rfl) rfl (by decide) rfl (nb rfl)) ?_
    refine AL.go (OpR.plain rfl (r_pickTb rfl (rfl) rfl (nb rfl) (by rintro _ ⟨⟩; rfl))) ?_
    refine AL.go (OpR.plain rfl (r_move rfl (nb rfl) (by rintro _ ⟨⟩))) ?_
    refine AL.go (.off rfl rfl (nb rfl) rfl (by decide) rfl (nb rfl)) ?_
    refine AL.go (.off rfl rfl (nb rfl) rfl (by decide) rfl (nb rfl)) ?_
    refine AL.go (.off rfl rfl (nb rfl) rfl (by decide) rfl (nb rfl)) ?_
    refine AL.go (.off rfl rfl (nb rfl) rfl (by decide) rfl (nb rfl)) ?_
    refine AL.go (.off rfl rfl (nb rfl) rfl (by decide) rfl (nb rfl)) ?_
    refine AL.go (OpR.plain rfl (r_pickTb rfl (rfl) rfl (nb rfl) (by rintro _ ⟨⟩; rfl))) ?_
    refine AL.go (OpR.plain rfl (r_move rfl (nb rfl) (by rintro _ ⟨⟩))) ?_
    refine AL.go (.off rfl rfl (nb rfl) rfl (by decide) rfl (nb rfl)) ?_
    refine AL.go (.off rfl rfl (nb rfl) rfl (by decide) rfl (nb rfl)) ?_
    refine AL.go (.off rfl rfl (nb rfl) rfl (by decide) rfl (nb rfl)) ?_
    refine AL.go (.off rfl rfl (nb rfl) rfl (by decide) rfl (nb rfl)) ?_
    refine AL.go (.off rfl rfl (nb rfl) rfl (by decide) rfl (nb rfl)) ?_
    refine AL.go (OpR.plain rfl (r_pickTb rfl (rfl) rfl (nb rfl) (by rintro _ ⟨⟩; rfl))) ?_
    refine AL.go (OpR.plain rfl (r_move rfl (nb rfl) (by rintro _ ⟨⟩))) ?_
    refine AL.go (.off rfl rfl (nb rfl) rfl (by decide) rfl (nb rfl)) ?_
    refine AL.go (.off rfl rfl (nb rfl) rfl (by decide) rfl (nb rfl)) ?_
    refine AL.go (.off rfl rfl (nb rfl) rfl (by decide) rfl (nb rfl)) ?_
    refine AL.go (.off rfl rfl (nb rfl) rfl (by decide) rfl (nb rfl)) ?_
    refine AL.go (.off rfl rfl (nb rfl) rfl (by decide) rfl (nb rfl)) ?_
    refine AL.go (OpR.plain rfl (r_pickTb rfl (rfl) rfl (nb rfl) (by rintro _ ⟨⟩; rfl))) ?_
    refine AL.go (OpR.plain rfl (r_move rfl (nb rfl) (by rintro _ ⟨⟩))) ?_
    refine AL.go (.off rfl rfl (nb rfl) rfl (by decide) rfl (nb rfl)) ?_
    refine AL.go (.off rfl rfl (nb rfl) rfl (by decide) rfl (nb rfl)) ?_
    refine AL.go (.off rfl rfl (nb rfl) rfl (by decide) rfl (nb rfl)) ?_
    refine AL.go (.off rfl rfl (nb rfl) rfl (by decide) rfl (nb rfl)) ?_
    refine AL.go (.off rfl rfl (nb rfl) rfl (by decide) rfl (nb rfl)) ?_
    refine AL.go (.off rfl rfl (nb rfl) rfl (by decide) rfl (nb rfl)) ?_
    refine AL.go (.off rfl rfl (nb rfl) rfl (by decide) rfl (nb rfl)) ?_
    refine AL.go (OpR.plain rfl (r_pickTb rfl (rfl) rfl (nb rfl) (by rintro _ ⟨⟩; rfl))) ?_
    refine AL.nil ?_
    refine thenN ?_
    refine AW.condT rfl (rfl) ?_
    refine AW.seq ?_
    refine AW.region ?_
    refine AL.go (OpR.plain rfl (r_assign rfl (nb rfl) (by rintro _ ⟨⟩; rfl))) ?_
    refine AL.nil ?_
    refine thenN ?_
    refine AW.ret ?_
    refine thenR ?_
    refine fin_id (.inr rfl) (ends_of rfl (.tmp rfl .nil)) ?_ .nil rfl rfl rfl rfl
    simp only [retA]
    first | exact A.le_refl _ | (exfalso; simp_all; done)
  · have h1n := h1; try simp only [dtt, dff, bqi, bqf, bni, bnf, nt1, nf1, nt0, nf0, ne_eq, ilt, ile, Int.toNat_natCast, rows_length] at h1n
    first | refine AL.go (OpR.onb rfl rfl (nb rfl) rfl (h1) (r_fieldAddr fo_27_1 (by decide) rfl (nb rfl))) ?_ | refine AL.go (OpR.onb rfl rfl (nb rfl) rfl (h1) (r_fieldAddrp fo_27_1 (by decide) rfl (nb rfl))) ?_
    first | refine AL.go (OpR.onb rfl rfl (nb rfl) rfl (h1) (r_load ti_9 rfl rfl rfl (nb rfl))) ?_ | refine AL.go (OpR.onb rfl rfl (nb rfl) rfl (h1) (r_loadp ti_9 rfl rfl (nb rfl))) ?_
    first | refine AL.go (OpR.onb rfl rfl (nb rfl) rfl (h1) (r_fieldAddr fo_27_1 (by decide) rfl (nb rfl))) ?_ | refine AL.go (OpR.onb rfl rfl (nb rfl) rfl (h1) (r_fieldAddrp fo_27_1 (by decide) rfl (nb rfl))) ?_
    first | refine AL.go (OpR.onb rfl rfl (nb rfl) rfl (h1) (r_load ti_9 rfl rfl rfl (nb rfl))) ?_ | refine AL.go (OpR.onb rfl rfl (nb rfl) rfl (h1) (r_loadp ti_9 rfl rfl (nb rfl))) ?_
    refine AL.go (OpR.onb rfl rfl (nb rfl) rfl (h1) (r_bin rfl rfl (nb rfl) rfl (run_str_neq _ _))) ?_
    refine AL.go (OpR.plain rfl (r_pickFb rfl (h1) rfl (nb rfl) (by rintro _ ⟨⟩))) ?_
    refine AL.go (OpR.plain rfl (r_move rfl (nb rfl) (by rintro _ ⟨⟩))) ?_
    refine AL.ifb (t := 18) rfl (fun h2 => ?_) (fun h2 => ?_)
    · have h2n := h2; try simp only [dtt, dff, bqi, bqf, bni, bnf, nt1, nf1, nt0, nf0, ne_eq, ilt, ile, Int.toNat_natCast, rows_length] at h2n
      refine AL.go (.off rfl rfl (nb rfl) rfl (by rw [h2]; decide) rfl (nb rfl)) ?_
      refine AL.go (.off rfl rfl (nb rfl) rfl (by rw [h2]; decide) rfl (nb rfl)) ?_
      refine AL.go (.off rfl rfl (nb rfl) rfl (by rw [h2]; decide) rfl (nb rfl)) ?_
      refine AL.go (.off rfl rfl (nb rfl) rfl (by rw [h2]; decide) rfl (nb rfl)) ?_
      refine AL.go (.off rfl rfl (nb rfl) rfl (by rw [h2]; decide) rfl (nb rfl)) ?_
      refine AL.go (OpR.plain rfl (r_pickTb rfl (h2) rfl (nb rfl) (by rintro _ ⟨⟩; rfl))) ?_
      refine AL.go (OpR.plain rfl (r_move rfl (nb rfl) (by rintro _ ⟨⟩))) ?_
      refine AL.go (.off rfl rfl (nb rfl) rfl (by decide) rfl (nb rfl)) ?_
      refine AL.go (.off rfl rfl (nb rfl) rfl (by decide) rfl (nb rfl)) ?_
      refine AL.go (.off rfl rfl (nb rfl) rfl (by decide) rfl (nb rfl)) ?_
      refine AL.go (.off rfl rfl (nb rfl) rfl (by decide) rfl (nb rfl)) ?_
      refine AL.go (.off rfl rfl (nb rfl) rfl (by decide) rfl (nb rfl)) ?_
      refine AL.go (OpR.plain rfl (r_pickTb rfl (rfl) rfl (nb rfl) (by rintro _ ⟨⟩; rfl))) ?_
      refine AL.go (OpR.plain rfl (r_move rfl (nb rfl) (by rintro _ ⟨⟩))) ?_
      refine AL.go (.off rfl rfl (nb rfl) rfl (by decide) rfl (nb rfl)) ?_
      refine AL.go (.off rfl rfl (nb rfl) rfl (by decide) rfl (nb rfl)) ?_
      refine AL.go (.off rfl rfl (nb rfl) rfl (by decide) rfl (nb rfl)) ?_
      refine AL.go (.off rfl rfl (nb rfl) rfl (by decide) rfl (nb rfl)) ?_
      refine AL.go (.off rfl rfl (nb rfl) rfl (by decide) rfl (nb rfl)) ?_
      refine AL.go (OpR.plain rfl (r_pickTb rfl (rfl) rfl (nb rfl) (by rintro _ ⟨⟩; rfl))) ?_
      refine AL.go (OpR.plain rfl (r_move rfl (nb rfl) (by rintro _ ⟨⟩))) ?_
      refine AL.go (.off rfl rfl (nb rfl) rfl (by decide) rfl (nb rfl)) ?_
      refine AL.go (.off rfl rfl (nb rfl) rfl (by decide) rfl (nb rfl)) ?_
      refine AL.go (.off rfl rfl (nb rfl) rfl (by decide) rfl (nb rfl)) ?_
      refine AL.go (.off rfl rfl (nb rfl) rfl (by decide) rfl (nb rfl)) ?_
      refine AL.go (.off rfl rfl (nb rfl) rfl (by decide) rfl (nb rfl)) ?_
      refine AL.go (OpR.plain rfl (r_pickTb rfl (rfl) rfl (nb rfl) (by rintro _ ⟨⟩; rfl))) ?_
      refine AL.go (OpR.plain rfl (r_move rfl (nb rfl) (by rintro _ ⟨⟩))) ?_
      refine AL.go (.off rfl rfl (nb rfl) rfl (by decide) rfl (nb rfl)) ?_
      refine AL.go (.off rfl rfl (nb rfl) rfl (by decide) rfl (nb rfl)) ?_
      refine AL.go (.off rfl rfl (nb rfl) rfl (by decide) rfl (nb rfl)) ?_
      refine AL.go (.off rfl rfl (nb rfl) rfl (by decide) rfl (nb rfl)) ?_
      refine AL.go (.off rfl rfl (nb rfl) rfl (by decide) rfl (nb rfl)) ?_
      refine AL.go (.off rfl rfl (nb rfl) rfl (by decide) rfl (nb rfl)) ?_
      refine AL.go (.off rfl rfl (nb rfl) rfl (by decide) rfl (nb rfl)) ?_
      refine AL.go (OpR.plain rfl (r_pickTb rfl (rfl) rfl (nb rfl) (by rintro _ ⟨⟩; rfl))) ?_
      refine AL.nil ?_
      refine thenN ?_
      refine AW.condT rfl (rfl) ?_
      refine AW.seq ?_
      refine AW.region ?_
      refine AL.go (OpR.plain rfl (r_assign rfl (nb rfl) (by rintro _ ⟨⟩; rfl))) ?_
      refine AL.nil ?_
      refine thenN ?_
      refine AW.ret ?_
      refine thenR ?_
      refine fin_id (.inr rfl) (ends_of rfl (.tmp rfl .nil)) ?_ .nil rfl rfl rfl rfl
      simp only [retA]
      first | exact A.le_refl _ | (exfalso; simp_all; done)
    · have h2n := h2; try simp only [dtt, dff, bqi, bqf, bni, bnf, nt1, nf1, nt0, nf0, ne_eq, ilt, ile, Int.toNat_natCast, rows_length] at h2n
      first | refine AL.go (OpR.onb rfl rfl (nb rfl) rfl (h2) (r_fieldAddr fo_27_2 (by decide) rfl (nb rfl))) ?_ | refine AL.go (OpR.onb rfl rfl (nb rfl) rfl (h2) (r_fieldAddrp fo_27_2 (by decide) rfl (nb rfl))) ?_
      first | refine AL.go (OpR.onb rfl rfl (nb rfl) rfl (h2) (r_load ti_9 rfl rfl rfl (nb rfl))) ?_ | refine AL.go (OpR.onb rfl rfl (nb rfl) rfl (h2) (r_loadp ti_9 rfl rfl (nb rfl))) ?_
      first | refine AL.go (OpR.onb rfl rfl (nb rfl) rfl (h2) (r_fieldAddr fo_27_2 (by decide) rfl (nb rfl))) ?_ | refine AL.go (OpR.onb rfl rfl (nb rfl) rfl (h2) (r_fieldAddrp fo_27_2 (by decide) rfl (nb rfl))) ?_
      first | refine AL.go (OpR.onb rfl rfl (nb rfl) rfl (h2) (r_load ti_9 rfl rfl rfl (nb rfl))) ?_ | refine AL.go (OpR.onb rfl rfl (nb rfl) rfl (h2) (r_loadp ti_9 rfl rfl (nb rfl))) ?_
      refine AL.go (OpR.onb rfl rfl (nb rfl) rfl (h2) (r_bin rfl rfl (nb rfl) rfl (run_str_neq _ _))) ?_
      refine AL.go (OpR.plain rfl (r_pickFb rfl (h2) rfl (nb rfl) (by rintro _ ⟨⟩))) ?_
      refine AL.go (OpR.plain rfl (r_move rfl (nb rfl) (by rintro _ ⟨⟩))) ?_
      refine AL.ifb (t := 25) rfl (fun h3 => ?_) (fun h3 => ?_)
      · have h3n := h3; try simp only [dtt, dff, bqi, bqf, bni, bnf, nt1, nf1, nt0, nf0, ne_eq, ilt, ile, Int.toNat_natCast, rows_length] at h3n
        refine AL.go (.off rfl rfl (nb rfl) rfl (by rw [h3]; decide) rfl (nb rfl)) ?_
        refine AL.go (.off rfl rfl (nb rfl) rfl (by rw [h3]; decide) rfl (nb rfl)) ?_
        refine AL.go (.off rfl rfl (nb rfl) rfl (by rw [h3]; decide) rfl (nb rfl)) ?_
        refine AL.go (.off rfl rfl (nb rfl) rfl (by rw [h3]; decide) rfl (nb rfl)) ?_
        refine AL.go (.off rfl rfl (nb rfl) rfl (by rw [h3]; decide) rfl (nb rfl)) ?_
        refine AL.go (OpR.plain rfl (r_pickTb rfl (h3) rfl (nb rfl) (by rintro _ ⟨⟩; rfl))) ?_
        refine AL.go (OpR.plain rfl (r_move rfl (nb rfl) (by rintro _ ⟨⟩))) ?_
        refine AL.go (.off rfl rfl (nb rfl) rfl (by decide) rfl (nb rfl)) ?_
        refine AL.go (.off rfl rfl (nb rfl) rfl (by decide) rfl (nb rfl)) ?_
        refine AL.go (.off rfl rfl (nb rfl) rfl (by decide) rfl (nb rfl)) ?_
        refine AL.go (.off rfl rfl (nb rfl) rfl (by decide) rfl (nb rfl)) ?_
        refine AL.go (.off rfl rfl (nb rfl) rfl (by decide) rfl (nb rfl)) ?_
        refine AL.go (OpR.plain rfl (r_pickTb rfl (rfl) rfl (nb rfl) (by rintro _ ⟨⟩; rfl))) ?_
        refine AL.go (OpR.plain rfl (r_move rfl (nb rfl) (by rintro _ ⟨⟩))) ?_
        refine AL.go (.off rfl rfl (nb rfl) rfl (by decide) rfl (nb rfl)) ?_
        refine AL.go (.off rfl rfl (nb rfl) rfl (by decide) rfl (nb rfl)) ?_
        refine AL.go (.off rfl rfl (nb rfl) rfl (by decide) rfl (nb rfl)) ?_
        refine AL.go (.off rfl rfl (nb rfl) rfl (by decide) rfl (nb rfl)) ?_
        refine AL.go (.off rfl rfl (nb rfl) rfl (by decide) rfl (nb rfl)) ?_
        refine AL.go (OpR.plain rfl (r_pickTb rfl (rfl) rfl (nb rfl) (by rintro _ ⟨⟩; rfl))) ?_
        refine AL.go (OpR.plain rfl (r_move rfl (nb rfl) (by rintro _ ⟨⟩))) ?_
        refine AL.go (.off rfl rfl (nb rfl) rfl (by decide) rfl (nb rfl)) ?_
        refine AL.go (.off rfl rfl (nb rfl) rfl (by decide) rfl (nb rfl)) ?_
        refine AL.go (.off rfl rfl (nb rfl) rfl (by decide) rfl (nb rfl)) ?_
        refine AL.go (.off rfl rfl (nb rfl) rfl (by decide) rfl (nb rfl)) ?_
        refine AL.go (.off rfl rfl (nb rfl) rfl (by decide) rfl (nb rfl)) ?_
        refine AL.go (.off rfl rfl (nb rfl) rfl (by decide) rfl (nb rfl)) ?_
        refine AL.go (.off rfl rfl (nb rfl) rfl (by decide) rfl (nb rfl)) ?_
        refine AL.go (OpR.plain rfl (r_pickTb rfl (rfl) rfl (nb rfl) (by rintro _ ⟨⟩; rfl))) ?_
        refine AL.nil ?_
        refine thenN ?_
        refine AW.condT rfl (rfl) ?_
        refine AW.seq ?_
        refine AW.region ?_
        refine AL.go (OpR.plain rfl (r_assign rfl (nb rfl) (by rintro _ ⟨⟩; rfl))) ?_
        refine AL.nil ?_
        refine thenN ?_
        refine AW.ret ?_
        refine thenR ?_
        refine fin_id (.inr rfl) (ends_of rfl (.tmp rfl .nil)) ?_ .nil rfl rfl rfl rfl
        simp only [retA]
        first | exact A.le_refl _ | (exfalso; simp_all; done)
      · have h3n := h3; try simp only [dtt, dff, bqi, bqf, bni, bnf, nt1, nf1, nt0, nf0, ne_eq, ilt, ile, Int.toNat_natCast, rows_length] at h3n
        first | refine AL.go (OpR.onb rfl rfl (nb rfl) rfl (h3) (r_fieldAddr fo_27_3 (by decide) rfl (nb rfl))) ?_ | refine AL.go (OpR.onb rfl rfl (nb rfl) rfl (h3) (r_fieldAddrp fo_27_3 (by decide) rfl (nb rfl))) ?_
        first | refine AL.go (OpR.onb rfl rfl (nb rfl) rfl (h3) (r_load ti_3 rfl rfl rfl (nb rfl))) ?_ | refine AL.go (OpR.onb rfl rfl (nb rfl) rfl (h3) (r_loadp ti_3 rfl rfl (nb rfl))) ?_
        first | refine AL.go (OpR.onb rfl rfl (nb rfl) rfl (h3) (r_fieldAddr fo_27_3 (by decide) rfl (nb rfl))) ?_ | refine AL.go (OpR.onb rfl rfl (nb rfl) rfl (h3) (r_fieldAddrp fo_27_3 (by decide) rfl (nb rfl))) ?_
        first | refine AL.go (OpR.onb rfl rfl (nb rfl) rfl (h3) (r_load ti_3 rfl rfl rfl (nb rfl))) ?_ | refine AL.go (OpR.onb rfl rfl (nb rfl) rfl (h3) (r_loadp ti_3 rfl rfl (nb rfl))) ?_
        refine AL.go (OpR.onb rfl rfl (nb rfl) rfl (h3) (r_bin rfl rfl (nb rfl) rfl (run_int_neq _ _ _))) ?_
        refine AL.go (OpR.plain rfl (r_pickFb rfl (h3) rfl (nb rfl) (by rintro _ ⟨⟩))) ?_
        refine AL.go (OpR.plain rfl (r_move rfl (nb rfl) (by rintro _ ⟨⟩))) ?_
        refine AL.ifb (t := 32) rfl (fun h4 => ?_) (fun h4 => ?_)
        · have h4n := h4; try simp only [dtt, dff, bqi, bqf, bni, bnf, nt1, nf1, nt0, nf0, ne_eq, ilt, ile, Int.toNat_natCast, rows_length] at h4n
          refine AL.go (.off rfl rfl (nb rfl) rfl (by rw [h4]; decide) rfl (nb rfl)) ?_
          refine AL.go (.off rfl rfl (nb rfl) rfl (by rw [h4]; decide) rfl (nb rfl)) ?_
          refine AL.go (.off rfl rfl (nb rfl) rfl (by rw [h4]; decide) rfl (nb rfl)) ?_
          refine AL.go (.off rfl rfl (nb rfl) rfl (by rw [h4]; decide) rfl (nb rfl)) ?_
          refine AL.go (.off rfl rfl (nb rfl) rfl (by rw [h4]; decide) rfl (nb rfl)) ?_
          refine AL.go (OpR.plain rfl (r_pickTb rfl (h4) rfl (nb rfl) (by rintro _ ⟨⟩; rfl))) ?_
          refine AL.go (OpR.plain rfl (r_move rfl (nb rfl) (by rintro _ ⟨⟩))) ?_
          refine AL.go (.off rfl rfl (nb rfl) rfl (by decide) rfl (nb rfl)) ?_
          refine AL.go (.off rfl rfl (nb rfl) rfl (by decide) rfl (nb rfl)) ?_
          refine AL.go (.off rfl rfl (nb rfl) rfl (by decide) rfl (nb rfl)) ?_
          refine AL.go (.off rfl rfl (nb rfl) rfl (by decide) rfl (nb rfl)) ?_
          refine AL.go (.off rfl rfl (nb rfl) rfl (by decide) rfl (nb rfl)) ?_
          refine AL.go (OpR.plain rfl (r_pickTb rfl (rfl) rfl (nb rfl) (by rintro _ ⟨⟩; rfl))) ?_
          refine AL.go (OpR.plain rfl (r_move rfl (nb rfl) (by rintro _ ⟨⟩))) ?_
          refine AL.go (.off rfl rfl (nb rfl) rfl (by decide) rfl (nb rfl)) ?_
          refine AL.go (.off rfl rfl (nb rfl) rfl (by decide) rfl (nb rfl)) ?_
          refine AL.go (.off rfl rfl (nb rfl) rfl (by decide) rfl (nb rfl)) ?_
          refine AL.go (.off rfl rfl (nb rfl) rfl (by decide) rfl (nb rfl)) ?_
          refine AL.go (.off rfl rfl (nb rfl) rfl (by decide) rfl (nb rfl)) ?_
          refine AL.go (.off rfl rfl (nb rfl) rfl (by decide) rfl (nb rfl)) ?_
          refine AL.go (.off rfl rfl (nb rfl) rfl (by decide) rfl (nb rfl)) ?_
          refine AL.go (OpR.plain rfl (r_pickTb rfl (rfl) rfl (nb rfl) (by rintro _ ⟨⟩; rfl))) ?_
          refine AL.nil ?_
          refine thenN ?_
          refine AW.condT rfl (rfl) ?_
          refine AW.seq ?_
          refine AW.region ?_
          refine AL.go (OpR.plain rfl (r_assign rfl (nb rfl) (by rintro _ ⟨⟩; rfl))) ?_
          refine AL.nil ?_
          refine thenN ?_
          refine AW.ret ?_
          refine thenR ?_
          refine fin_id (.inr rfl) (ends_of rfl (.tmp rfl .nil)) ?_ .nil rfl rfl rfl rfl
          simp only [retA]
          first | exact A.le_refl _ | (exfalso; simp_all; done)
        · have h4n := h4; try simp only [dtt, dff, bqi, bqf, bni, bnf, nt1, nf1, nt0, nf0, ne_eq, ilt, ile, Int.toNat_natCast, rows_length] at h4n
          first | refine AL.go (OpR.onb rfl rfl (nb rfl) rfl (h4) (r_fieldAddr fo_27_4 (by decide) rfl (nb rfl))) ?_ | refine AL.go (OpR.onb rfl rfl (nb rfl) rfl (h4) (r_fieldAddrp fo_27_4 (by decide) rfl (nb rfl))) ?_
          first | refine AL.go (OpR.onb rfl rfl (nb rfl) rfl (h4) (r_load ti_3 rfl rfl rfl (nb rfl))) ?_ | refine AL.go (OpR.onb rfl rfl (nb rfl) rfl (h4) (r_loadp ti_3 rfl rfl (nb rfl))) ?_
          first | refine AL.go (OpR.onb rfl rfl (nb rfl) rfl (h4) (r_fieldAddr fo_27_4 (by decide) rfl (nb rfl))) ?_ | refine AL.go (OpR.onb rfl rfl (nb rfl) rfl (h4) (r_fieldAddrp fo_27_4 (by decide) rfl (nb rfl))) ?_
          first | refine AL.go (OpR.onb rfl rfl (nb rfl) rfl (h4) (r_load ti_3 rfl rfl rfl (nb rfl))) ?_ | refine AL.go (OpR.onb rfl rfl (nb rfl) rfl (h4) (r_loadp ti_3 rfl rfl (nb rfl))) ?_
          refine AL.go (OpR.onb rfl rfl (nb rfl) rfl (h4) (r_bin rfl rfl (nb rfl) rfl (run_int_neq _ _ _))) ?_
          refine AL.go (OpR.plain rfl (r_pickFb rfl (h4) rfl (nb rfl) (by rintro _ ⟨⟩))) ?_
          refine AL.go (OpR.plain rfl (r_move rfl (nb rfl) (by rintro _ ⟨⟩))) ?_
          refine AL.ifb (t := 39) rfl (fun h5 => ?_) (fun h5 => ?_)
          · have h5n := h5; try simp only [dtt, dff, bqi, bqf, bni, bnf, nt1, nf1, nt0, nf0, ne_eq, ilt, ile, Int.toNat_natCast, rows_length] at h5n
            refine AL.go (.off rfl rfl (nb rfl) rfl (by rw [h5]; decide) rfl (nb rfl)) ?_
            refine AL.go (.off rfl rfl (nb rfl) rfl (by rw [h5]; decide) rfl (nb rfl)) ?_
            refine AL.go (.off rfl rfl (nb rfl) rfl (by rw [h5]; decide) rfl (nb rfl)) ?_
            refine AL.go (.off rfl rfl (nb rfl) rfl (by rw [h5]; decide) rfl (nb rfl)) ?_
            refine AL.go (.off rfl rfl (nb rfl) rfl (by rw [h5]; decide) rfl (nb rfl)) ?_
            refine AL.go (OpR.plain rfl (r_pickTb rfl (h5) rfl (nb rfl) (by rintro _ ⟨⟩; rfl))) ?_
            refine AL.go (OpR.plain rfl (r_move rfl (nb rfl) (by rintro _ ⟨⟩))) ?_
            refine AL.go (.off rfl rfl (nb rfl) rfl (by decide) rfl (nb rfl)) ?_
            refine AL.go (.off rfl rfl (nb rfl) rfl (by decide) rfl (nb rfl)) ?_
            refine AL.go (.off rfl rfl (nb rfl) rfl (by decide) rfl (nb rfl)) ?_
            refine AL.go (.off rfl rfl (nb rfl) rfl (by decide) rfl (nb rfl)) ?_
            refine AL.go (.off rfl rfl (nb rfl) rfl (by decide) rfl (nb rfl)) ?_
            refine AL.go (.off rfl rfl (nb rfl) rfl (by decide) rfl (nb rfl)) ?_
            refine AL.go (.off rfl rfl (nb rfl) rfl (by decide) rfl (nb rfl)) ?_
            refine AL.go (OpR.plain rfl (r_pickTb rfl (rfl) rfl (nb rfl) (by rintro _ ⟨⟩; rfl))) ?_
            refine AL.nil ?_
            refine thenN ?_
            refine AW.condT rfl (rfl) ?_
            refine AW.seq ?_
            refine AW.region ?_
            refine AL.go (OpR.plain rfl (r_assign rfl (nb rfl) (by rintro _ ⟨⟩; rfl))) ?_
            refine AL.nil ?_
            refine thenN ?_
            refine AW.ret ?_
            refine thenR ?_
            refine fin_id (.inr rfl) (ends_of rfl (.tmp rfl .nil)) ?_ .nil rfl rfl rfl rfl
            simp only [retA]
            first | exact A.le_refl _ | (exfalso; simp_all; done)
          · have h5n := h5; try simp only [dtt, dff, bqi, bqf, bni, bnf, nt1, nf1, nt0, nf0, ne_eq, ilt, ile, Int.toNat_natCast, rows_length] at h5n
            first | refine AL.go (OpR.onb rfl rfl (nb rfl) rfl (h5) (r_fieldAddr fo_27_5 (by decide) rfl (nb rfl))) ?_ | refine AL.go (OpR.onb rfl rfl (nb rfl) rfl (h5) (r_fieldAddrp fo_27_5 (by decide) rfl (nb rfl))) ?_
            first | refine AL.go (OpR.onb rfl rfl (nb rfl) rfl (h5) (r_load ti_24 rfl rfl (by simp only [loaded, mpc, mpn, if_true, ler, tks, tkz, tkn, dps, dpz, cap, nap, apn, lnc, lnn, zad, Nat.reduceAdd, adz]; rfl) (nb rfl))) ?_ | refine AL.go (OpR.onb rfl rfl (nb rfl) rfl (h5) (r_loadp ti_24 rfl (by simp only [loaded, mpc, mpn, if_true, ler, tks, tkz, tkn, dps, dpz, cap, nap, apn, lnc, lnn, zad, Nat.reduceAdd, adz]; rfl) (nb rfl))) ?_
            first | refine AL.go (OpR.onb rfl rfl (nb rfl) rfl (h5) (r_fieldAddr fo_27_5 (by decide) rfl (nb rfl))) ?_ | refine AL.go (OpR.onb rfl rfl (nb rfl) rfl (h5) (r_fieldAddrp fo_27_5 (by decide) rfl (nb rfl))) ?_
            first | refine AL.go (OpR.onb rfl rfl (nb rfl) rfl (h5) (r_load ti_24 rfl rfl (by simp only [loaded, mpc, mpn, if_true, ler, tks, tkz, tkn, dps, dpz, cap, nap, apn, lnc, lnn, zad, Nat.reduceAdd, adz]; rfl) (nb rfl))) ?_ | refine AL.go (OpR.onb rfl rfl (nb rfl) rfl (h5) (r_loadp ti_24 rfl (by simp only [loaded, mpc, mpn, if_true, ler, tks, tkz, tkn, dps, dpz, cap, nap, apn, lnc, lnn, zad, Nat.reduceAdd, adz]; rfl) (nb rfl))) ?_
            refine AL.go (OpR.onb rfl rfl (nb rfl) rfl (h5) (r_selfNe [.int .i64 e.val.kind, .int .i64 e.val.i, .string e.val.s] rfl rfl rfl rfl (by kernel_rfl) (by kernel_rfl) rfl (nb rfl))) ?_
            refine AL.go (OpR.plain rfl (r_pickFb rfl (h5) rfl (nb rfl) (by rintro _ ⟨⟩))) ?_
            refine AL.go (OpR.plain rfl (r_move rfl (nb rfl) (by rintro _ ⟨⟩))) ?_
            first | refine AL.go (OpR.onb rfl rfl (nb rfl) rfl (rfl) (r_fieldAddr fo_27_6 (by decide) rfl (nb rfl))) ?_ | refine AL.go (OpR.onb rfl rfl (nb rfl) rfl (rfl) (r_fieldAddrp fo_27_6 (by decide) rfl (nb rfl))) ?_
            first | refine AL.go (OpR.onb rfl rfl (nb rfl) rfl (rfl) (r_load ti_25 rfl rfl rfl (nb rfl))) ?_ | refine AL.go (OpR.onb rfl rfl (nb rfl) rfl (rfl) (r_loadp ti_25 rfl rfl (nb rfl))) ?_
            refine AL.go (OpR.onb rfl rfl (nb rfl) rfl (rfl) (r_len un_25 rfl (by first | exact .sl | exact .own | exact .row | exact .nil) (by intro _ h; cases h) (nb rfl) (by rintro _ ⟨⟩))) ?_
            first | refine AL.go (OpR.onb rfl rfl (nb rfl) rfl (rfl) (r_fieldAddr fo_27_6 (by decide) rfl (nb rfl))) ?_ | refine AL.go (OpR.onb rfl rfl (nb rfl) rfl (rfl) (r_fieldAddrp fo_27_6 (by decide) rfl (nb rfl))) ?_
            first | refine AL.go (OpR.onb rfl rfl (nb rfl) rfl (rfl) (r_load ti_25 rfl rfl rfl (nb rfl))) ?_ | refine AL.go (OpR.onb rfl rfl (nb rfl) rfl (rfl) (r_loadp ti_25 rfl rfl (nb rfl))) ?_
            refine AL.go (OpR.onb rfl rfl (nb rfl) rfl (rfl) (r_len un_25 rfl (by first | exact .sl | exact .own | exact .row | exact .nil) (by intro _ h; cases h) (nb rfl) (by rintro _ ⟨⟩))) ?_
            refine AL.go (OpR.onb rfl rfl (nb rfl) rfl (rfl) (r_bin rfl rfl (nb rfl) rfl (run_int_neq _ _ _))) ?_
            refine AL.go (OpR.plain rfl (r_pickFb rfl (rfl) rfl (nb rfl) (by rintro _ ⟨⟩))) ?_
            refine AL.nil ?_
            refine thenN ?_
            refine AW.condb rfl (fun h6 => ?_) (fun h6 => ?_)
            · have h6n := h6; try simp only [dtt, dff, bqi, bqf, bni, bnf, nt1, nf1, nt0, nf0, ne_eq, ilt, ile, Int.toNat_natCast, rows_length] at h6n
              refine AW.seq ?_
              refine AW.region ?_
              refine AL.go (OpR.plain rfl (r_assign rfl (nb rfl) (by rintro _ ⟨⟩; rfl))) ?_
              refine AL.nil ?_
              refine thenN ?_
              refine AW.ret ?_
              refine thenR ?_
              refine fin_id (.inr rfl) (ends_of rfl (.tmp rfl .nil)) ?_ .nil rfl rfl rfl rfl
              simp only [retA]
              first | exact A.le_refl _ | (exfalso; simp_all; done)
            · have h6n := h6; try simp only [dtt, dff, bqi, bqf, bni, bnf, nt1, nf1, nt0, nf0, ne_eq, ilt, ile, Int.toNat_natCast, rows_length] at h6n
              refine AW.skip ?_
              refine thenN ?_
              refine AW.seq ?_
              refine AW.seq ?_
              refine AW.region ?_
              refine AL.go (OpR.plain rfl (r_assign rfl (nb rfl) (by rintro _ ⟨⟩; rfl))) ?_
              refine AL.nil ?_
              refine thenN ?_
              refine AW.block ?_
              refine AW.loop (ι := { x : Nat // x ≤ e.l.length }) (fun x => ⟨[(2, A.c (.ref 101 0)), (3, A.c (.ref 102 0)), (5, A.i64 (x.1 : Int))], [(101, exBox e), (102, exBox e)], []⟩) (fun x => e.l.length - x.1) ⟨0, by simp⟩ (weakens_id (.cons rfl (A.le_of_eq (by first | rfl | (simp [A.ren, C.ren, renOf, lk]; done) | (simp [A.ren, C.ren, renOf, lk]; omega) | omega)) (.cons rfl (A.le_of_eq (by first | rfl | (simp [A.ren, C.ren, renOf, lk]; done) | (simp [A.ren, C.ren, renOf, lk]; omega) | omega)) (.cons rfl (A.le_of_eq (by first | rfl | (simp [A.ren, C.ren, renOf, lk]; done) | (simp [A.ren, C.ren, renOf, lk]; omega) | omega)) .nil))) (.cons rfl (Ob.le_refl _) (.cons rfl (Ob.le_refl _) .nil)) rfl rfl rfl rfl) ?_
              rintro ⟨jJ, hI⟩
              show AW _ _ (⟨[(2, A.c (.ref 101 0)), (3, A.c (.ref 102 0)), (5, A.i64 (jJ : Int))], [(101, exBox e), (102, exBox e)], []⟩ : St) _
              refine AW.seq ?_
              refine AW.seq ?_
              refine AW.region ?_
              refine AL.go (OpR.plain rfl (r_move rfl (nb rfl) (by rintro _ ⟨⟩))) ?_
              first | refine AL.go (OpR.plain rfl (r_fieldAddr fo_27_6 (by decide) rfl (nb rfl))) ?_ | refine AL.go (OpR.plain rfl (r_fieldAddrp fo_27_6 (by decide) rfl (nb rfl))) ?_
              first | refine AL.go (OpR.plain rfl (r_load ti_25 rfl rfl rfl (nb rfl))) ?_ | refine AL.go (OpR.plain rfl (r_loadp ti_25 rfl rfl (nb rfl))) ?_
              refine AL.go (OpR.plain rfl (r_len un_25 rfl (by first | exact .sl | exact .own | exact .row | exact .nil) (by intro _ h; cases h) (nb rfl) (by rintro _ ⟨⟩))) ?_
              refine AL.go (OpR.plain rfl (r_bin rfl rfl (nb rfl) rfl (run_int_lss _ _ _))) ?_
              refine AL.nil ?_
              refine thenN ?_
              refine AW.condb rfl (fun h7 => ?_) (fun h7 => ?_)
              · have h7n := h7; try simp only [dtt, dff, bqi, bqf, bni, bnf, nt1, nf1, nt0, nf0, ne_eq, ilt, ile, Int.toNat_natCast, rows_length] at h7n
                refine AW.skip ?_
                refine thenN ?_
                refine AW.seq ?_
                refine AW.block ?_
                refine AW.seq ?_
                refine AW.draw ?_
                first | refine DW.go (OpR.plain rfl (r_fieldAddr fo_27_6 (by decide) rfl (nb rfl))) ?_ | refine DW.go (OpR.plain rfl (r_fieldAddrp fo_27_6 (by decide) rfl (nb rfl))) ?_
                first | refine DW.go (OpR.plain rfl (r_load ti_25 rfl rfl rfl (nb rfl))) ?_ | refine DW.go (OpR.plain rfl (r_loadp ti_25 rfl rfl (nb rfl))) ?_
                refine DW.go (OpR.plain rfl (r_move rfl (nb rfl) (by rintro _ ⟨⟩))) ?_
                refine DW.go (OpR.plain rfl (r_indexAddr un_25 ti_27 rfl (by first | exact .inl rfl | exact .inr ⟨_, rfl⟩) rfl rows_len (by first | omega | (simp only [rows_length] at *; omega)) (ex_at (by omega) (by omega)) (nb rfl))) ?_
                first | refine DW.go (OpR.plain rfl (r_load ti_27 rfl rfl (by simp only [loaded, mpc, mpn, if_true, ler, tks, tkz, tkn, dps, dpz, cap, nap, apn, lnc, lnn, zad, Nat.reduceAdd, adz]; rfl) (nb rfl))) ?_ | refine DW.go (OpR.plain rfl (r_loadp ti_27 rfl (by simp only [loaded, mpc, mpn, if_true, ler, tks, tkz, tkn, dps, dpz, cap, nap, apn, lnc, lnn, zad, Nat.reduceAdd, adz]; rfl) (nb rfl))) ?_
                first | refine DW.go (OpR.plain rfl (r_fieldAddr fo_27_6 (by decide) rfl (nb rfl))) ?_ | refine DW.go (OpR.plain rfl (r_fieldAddrp fo_27_6 (by decide) rfl (nb rfl))) ?_
                first | refine DW.go (OpR.plain rfl (r_load ti_25 rfl rfl rfl (nb rfl))) ?_ | refine DW.go (OpR.plain rfl (r_loadp ti_25 rfl rfl (nb rfl))) ?_
                refine DW.go (OpR.plain rfl (r_move rfl (nb rfl) (by rintro _ ⟨⟩))) ?_
                refine DW.go (OpR.plain rfl (r_indexAddr un_25 ti_27 rfl (by first | exact .inl rfl | exact .inr ⟨_, rfl⟩) rfl rows_len (by first | omega | (simp only [rows_length] at *; omega)) (ex_at (by omega) (by omega)) (nb rfl))) ?_
                first | refine DW.go (OpR.plain rfl (r_load ti_27 rfl rfl (by simp only [loaded, mpc, mpn, if_true, ler, tks, tkz, tkn, dps, dpz, cap, nap, apn, lnc, lnn, zad, Nat.reduceAdd, adz]; rfl) (nb rfl))) ?_ | refine DW.go (OpR.plain rfl (r_loadp ti_27 rfl (by simp only [loaded, mpc, mpn, if_true, ler, tks, tkz, tkn, dps, dpz, cap, nap, apn, lnc, lnn, zad, Nat.reduceAdd, adz]; rfl) (nb rfl))) ?_
                refine DW.go (OpR.plain rfl (r_callFun (ih _ (ex_mem (l := e.l) (j := jJ) (by omega))) en_10 rfl rfl rfl rfl (.cons (A.le_refl _) (.cons (A.le_refl _) .nil)) rfl (nb rfl))) ?_
                refine DW.go (OpR.plain rfl (r_not rfl (nb rfl))) ?_
                refine DW.fin mixed (by kernel_rfl) (by kernel_rfl) ?_
                refine thenN ?_
                refine AW.condb rfl (fun h8 => ?_) (fun h8 => ?_)
                · have h8n := h8; try simp only [dtt, dff, bqi, bqf, bni, bnf, nt1, nf1, nt0, nf0, ne_eq, ilt, ile, Int.toNat_natCast, rows_length] at h8n
                  refine AW.seq ?_
                  refine AW.region ?_
                  refine AL.go (OpR.plain rfl (r_assign rfl (nb rfl) (by rintro _ ⟨⟩; rfl))) ?_
                  refine AL.nil ?_
                  refine thenN ?_
                  refine AW.ret ?_
                  refine inbR ?_
                  refine thenR ?_
                  refine thenR ?_
                  refine inbR ?_
                  refine thenR ?_
                  refine fin_id (.inr rfl) (ends_of rfl (.tmp rfl .nil)) ?_ .nil rfl rfl rfl rfl
                  simp only [retA]
                  first | exact A.le_refl _ | (exfalso; simp_all; done)
                · have h8n := h8; try simp only [dtt, dff, bqi, bqf, bni, bnf, nt1, nf1, nt0, nf0, ne_eq, ilt, ile, Int.toNat_natCast, rows_length] at h8n
                  refine AW.skip ?_
                  refine inbN ?_
                  refine thenN ?_
                  refine AW.region ?_
                  refine AL.go (OpR.plain rfl (r_move rfl (nb rfl) (by rintro _ ⟨⟩))) ?_
                  refine AL.go (OpR.plain rfl (r_add rfl rfl (nb rfl) (by first | omega | (simp only [rows_length] at *; omega)) (by first | omega | (simp only [rows_length] at *; omega)))) ?_
                  refine AL.go (OpR.plain rfl (r_assign rfl (nb rfl) (by rintro _ ⟨⟩))) ?_
                  refine AL.nil ?_
                  refine thenN ?_
                  refine ⟨⟨jJ + 1, by omega⟩, by simp only; omega, weakens_id (.cons rfl (A.le_of_eq (by first | rfl | (simp [A.ren, C.ren, renOf, lk]; done) | (simp [A.ren, C.ren, renOf, lk]; omega) | omega)) (.cons rfl (A.le_of_eq (by first | rfl | (simp [A.ren, C.ren, renOf, lk]; done) | (simp [A.ren, C.ren, renOf, lk]; omega) | omega)) (.cons rfl (A.le_of_eq (by first | rfl | (simp [A.ren, C.ren, renOf, lk]; done) | (simp [A.ren, C.ren, renOf, lk]; omega) | omega)) .nil))) (.cons rfl (Ob.le_refl _) (.cons rfl (Ob.le_refl _) .nil)) rfl rfl rfl rfl⟩
              · have h7n := h7; try simp only [dtt, dff, bqi, bqf, bni, bnf, nt1, nf1, nt0, nf0, ne_eq, ilt, ile, Int.toNat_natCast, rows_length] at h7n
                refine AW.exit ?_
                refine thenX ?_
                refine thenX ?_
                refine inbE ?_
                refine thenN ?_
                refine AW.seq ?_
                refine AW.region ?_
                refine AL.go (OpR.plain rfl (r_assign rfl (nb rfl) (by rintro _ ⟨⟩; rfl))) ?_
                refine AL.nil ?_
                refine thenN ?_
                refine AW.ret ?_
                refine fin_id (.inr rfl) (ends_of rfl (.tmp rfl .nil)) ?_ .nil rfl rfl rfl rfl
                simp only [retA]
                first | exact A.le_refl _ | (exfalso; simp_all; done)

/-- The document's Same of an expression and itself. -/
theorem same_all {e : Ex} (h : Thin e) : Am.Fun Tryd.prog 10 [exA e, exA e] (A.bool true) := by
  induction h with
  | mk h hs ih => exact same_s _ h ih
abbrev liveT : ByteArray := ⟨#[40, 40, 97, 46, 120, 41, 32, 43, 32, 49, 41, 32, 42, 32, 50]⟩
abbrev liveE : Ex := exOf 9 [exOf 7 [exCol ⟨#[97]⟩ ⟨#[120]⟩, exVal ⟨1, 1, bs0⟩], exVal ⟨1, 2, bs0⟩]
theorem live_e : exprM 20007 liveT = (liveE, 0) := by kernel_rfl
theorem itoa_1 : itoaM 1 = ⟨#[49]⟩ := by simp [itoaM, Lib.itoa, Lib.decDigits]
theorem itoa_2 : itoaM 2 = ⟨#[50]⟩ := by simp [itoaM, Lib.itoa, Lib.decDigits]
theorem live_pr : liveE.pr = ⟨#[40, 97, 46, 120, 32, 43, 32, 49, 41, 32, 42, 32, 50]⟩ := by
  have e1 : (exVal ⟨1, 1, bs0⟩).pr = ⟨#[49]⟩ := by rw [Ex.pr_eq]; exact itoa_1
  have e2 : (exVal ⟨1, 2, bs0⟩).pr = ⟨#[50]⟩ := by rw [Ex.pr_eq]; exact itoa_2
  have e3 : (exCol ⟨#[97]⟩ ⟨#[120]⟩).pr = ⟨#[97, 46, 120]⟩ := by kernel_rfl
  have e4 : (exOf 7 [exCol ⟨#[97]⟩ ⟨#[120]⟩, exVal ⟨1, 1, bs0⟩]).pr = ⟨#[97, 46, 120, 32, 43, 32, 49]⟩ := by
    rw [Ex.pr_eq]
    show prOp 7 bs0 bs0 Val.null (exCol ⟨#[97]⟩ ⟨#[120]⟩) (exVal ⟨1, 1, bs0⟩) (exCol ⟨#[97]⟩ ⟨#[120]⟩).pr (exVal ⟨1, 1, bs0⟩).pr = _
    rw [e1, e3]; rfl
  rw [Ex.pr_eq]
  show prOp 9 bs0 bs0 Val.null (exOf 7 [exCol ⟨#[97]⟩ ⟨#[120]⟩, exVal ⟨1, 1, bs0⟩]) (exVal ⟨1, 2, bs0⟩) (exOf 7 [exCol ⟨#[97]⟩ ⟨#[120]⟩, exVal ⟨1, 1, bs0⟩]).pr (exVal ⟨1, 2, bs0⟩).pr = _
  rw [e4, e2]; rfl
theorem live_tree : PrTree liveE := (expr_again live_e).2.2
end Go.Par
