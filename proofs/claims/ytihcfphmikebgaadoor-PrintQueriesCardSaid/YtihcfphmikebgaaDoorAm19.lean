/- Structs compared: one with itself. -/
import Derived.Test.YtihcfphmikebgaaDoorAm18
import Derived.DeepKeys
namespace Go.Am
open Go.RowKit
set_option linter.unusedVariables false
set_option linter.unusedSimpArgs false

variable {G : Gm} {sl : List (Nat × A)} {mem : List (Nat × Ob)} {d : Nat} {ty : TypeId} {pos : String} {af : Array Edge} {gd : Option (Nat × Bool)}

theorem beqBytes_self (s : ByteArray) : (s == s) = true := by
  rw [beq_toListBytes]; simp

/-- A cell that equals itself. -/
def selfCell (P : Program) (t : TypeId) (v : Value) : Bool := match P.underlying t, v with
  | some (.int _), .int _ _ => true
  | some .string, .string _ => true
  | some .bool, .bool _ => true
  | _, _ => false
theorem run_selfCell {P : Program} {t : TypeId} {v : Value} (h : selfCell P t v = true) (n : Nat) (w : World) : (Op.equalIn (n + 1) t v v).run P w = .ok true w := by
  unfold selfCell at h
  cases hu : P.underlying t with
  | none => rw [hu] at h; cases h
  | some u =>
    rw [hu] at h
    cases u <;> cases v <;> simp only [reduceCtorEq, Bool.false_eq_true] at h <;>
      first | (simp [Op.equalIn, run_underlying hu]; done) | (simp [Op.equalIn, run_underlying hu]; exact beqBytes_self _)

def selfFields (P : Program) (vs : List Value) (fs : List Field) : Bool := fs.all fun f => f.name != "_" && (match tinf P f.type with | some (_, _, g, _) => !g | none => false) && (match vs[f.offset]? with | some v => selfCell P f.type v | none => false)
theorem run_selfFields {P : Program} {vs : List Value} (n : Nat) (w : World) : ∀ {fs : List Field}, selfFields P vs fs = true → (Op.eqFields (n + 1) vs.toArray vs.toArray fs).run P w = .ok true w
  | [], _ => by simp [Op.eqFields]
  | f :: fs, h => by
    simp only [selfFields, List.all_cons, Bool.and_eq_true] at h
    obtain ⟨⟨⟨h1, h2⟩, h3⟩, h4⟩ := h
    have ih := run_selfFields (P := P) (vs := vs) n w (fs := fs) h4
    cases ht : tinf P f.type with
    | none => rw [ht] at h2; cases h2
    | some q =>
      obtain ⟨k, b, g, z⟩ := q
      rw [ht] at h2
      simp only [Bool.not_eq_true'] at h2
      subst h2
      cases hv : vs[f.offset]? with
      | none => rw [hv] at h3; cases h3
      | some v =>
        rw [hv] at h3
        have hname : f.name ≠ "_" := by simpa using h1
        have hp : (part f.type vs.toArray f.offset).run P w = .ok v w := by
          simp [part, run_isAgg ht, hv]
        simp only [Op.eqFields, if_pos hname, Sem.run_bind, hp, Result.andThen_ok, run_selfCell h3 n w, Bool.not_true, Bool.false_eq_true, if_false]
        exact ih
def selfStruct (P : Program) (t : TypeId) (vs : List Value) : Bool := (match P.underlying t with | some (.struct _) => true | _ => false) && !P.stoodInHeld t && selfFields P vs (P.fieldsOf t).toList
theorem run_selfStruct {P : Program} {t : TypeId} {vs : List Value} (h : selfStruct P t vs = true) (w : World) : (Op.equal t (.agg vs.toArray) (.agg vs.toArray)).run P w = .ok true w := by
  simp only [selfStruct, Bool.and_eq_true, Bool.not_eq_true'] at h
  obtain ⟨⟨h1, h2⟩, h3⟩ := h
  unfold Op.equal
  obtain ⟨n, hn⟩ : ∃ n, Op.maxDepth = n + 1 + 1 := ⟨9998, rfl⟩
  rw [hn]
  have hu : P.underlying t = some (.struct (P.fieldsOf t)) := by
    unfold Program.fieldsOf
    cases hu : P.underlying t with
    | none => rw [hu] at h1; cases h1
    | some u => rw [hu] at h1; cases u <;> first | rfl | cases h1
  rw [run_equalIn_struct w (n + 1) t _ _ hu h2]
  exact run_selfFields n w h3
theorem agg_val {F : Loc} {ρ : Ren} {w : World} {vs : List Value} {v : Value} (h : RepA F ρ w (.agg (vs.map fun x => C.d (D.v x))) v) : v = .agg vs.toArray := by
  cases h with
  | agg h1 hv =>
    rename_i arr
    congr 1
    apply Array.ext_getElem?
    intro i
    simp only [List.length_map] at h1
    rcases Nat.lt_or_ge i vs.length with c | c
    · have := hv i (.d (.v vs[i])) (by simp [c])
      rw [Array.getD_eq_getD_getElem?, Array.getElem?_eq_getElem (by omega)] at this
      simp only [Option.getD_some] at this
      rw [Array.getElem?_eq_getElem (by omega)]
      generalize arr[i] = u at this
      cases this with | d h => cases h; simp [c]
    · rw [Array.getElem?_eq_none (by omega)]
      simp [c]
/-- A struct that is compared with one of the same cells: not unequal. -/
theorem r_selfNe {t yt : TypeId} {x y : Operand} {cs cs' : List C} (vs : List Value) (hx : ev sl x = some (.agg cs)) (hy : ev sl y = some (.agg cs')) (h1 : cs = vs.map fun x => C.d (D.v x)) (h2 : cs' = vs.map fun x => C.d (D.v x)) (hs : selfStruct G.P t vs = true) (hq : G.P.eqGuardType G.P.depth t = false) (hone : oneAll [x, y] = true) (hn : d < G.n) :
    OpR G ⟨some d, .binOp .neq t x y yt, ty, pos, af, gd⟩ sl mem ⟨rd sl [x, y], [], [(d, A.bool false)], []⟩ :=
  .pure [x, y] rfl hn (by simp) fun K ρ s a w hK hs' hrs _ => by
    subst h1; subst h2
    have e1 := agg_val (rep_of hs' hrs (by simp) (oneAll_spec hone (by simp)) hx)
    have e2 := agg_val (rep_of hs' hrs (by simp) (oneAll_spec hone (by simp)) hy)
    refine ⟨.bool false, ?_, .c (.d (.v rfl))⟩
    have b1 : binOp .neq t (.agg vs.toArray) (.agg vs.toArray) = (do pure (.bool (!(← Op.equal t (.agg vs.toArray) (.agg vs.toArray))))) := rfl
    have b2 : (eqGuard .neq t x y (.agg vs.toArray) (.agg vs.toArray)).run G.P w = .ok () w := by
      simp [eqGuard, hq]
    simp only [execOp, e1, e2, b1, b2, Sem.run_bind, Sem.run_pure, Result.andThen_ok, run_selfStruct hs, Bool.not_true]

end Go.Am
