/- Rules of single operations, second part: memory. -/
import Derived.Test.YtihcfphmikebgaaDoorAm9
import Derived.Great.BuildSlice
namespace Go.Am
open Go.RowKit
set_option linter.unusedVariables false
set_option linter.unusedSimpArgs false

variable {G : Gm} {Q : Exit → St → Prop} {ops : Array Oper} {o : Oper} {l : List Oper} {sl : List (Nat × A)} {mem : List (Nat × Ob)} {defs : List (Nat × List C)}
variable {d : Nat} {ty : TypeId} {pos : String} {af : Array Edge} {gd : Option (Nat × Bool)} {K : Ctx} {ρ : Ren} {w : World} {F : Loc}

/-- A type's size, bytes, whether it is a struct or an array, its zero value. -/
def tinf (P : Program) (t : TypeId) : Option (Nat × Nat × Bool × Option Value) :=
  match P.info? t, P.underlying t with
  | some i, some (.struct _) => some (i.size, i.bytes, true, i.zero)
  | some i, some (.array _ _) => some (i.size, i.bytes, true, i.zero)
  | some i, some _ => some (i.size, i.bytes, false, i.zero)
  | _, _ => none

theorem tinf_spec {P : Program} {t : TypeId} {k b : Nat} {g : Bool} {z : Option Value} (h : tinf P t = some (k, b, g, z)) :
    ∃ i u, P.info? t = some i ∧ P.underlying t = some u ∧ i.size = k ∧ i.bytes = b ∧ i.zero = z ∧ (match u with | .struct _ | .array _ _ => true | _ => false) = g := by
  unfold tinf at h
  cases hi : P.info? t with
  | none => rw [hi] at h; simp at h
  | some i =>
    cases hu : P.underlying t with
    | none => rw [hi, hu] at h; simp at h
    | some u =>
      rw [hi, hu] at h
      refine ⟨i, u, rfl, rfl, ?_⟩
      cases u <;> simp only [Option.some.injEq, Prod.mk.injEq] at h <;> obtain ⟨rfl, rfl, rfl, rfl⟩ := h <;> exact ⟨rfl, rfl, rfl, rfl⟩

theorem run_isAgg {P : Program} {t : TypeId} {k b : Nat} {g : Bool} {z : Option Value} (h : tinf P t = some (k, b, g, z)) (w : World) : (isAgg t).run P w = .ok g w := by
  obtain ⟨i, u, h1, h2, _, _, _, h6⟩ := tinf_spec h
  unfold isAgg
  rw [Sem.run_bind, run_underlying h2 w]
  subst h6
  cases u <;> simp [Result.andThen]
theorem run_sizeOf {P : Program} {t : TypeId} {k b : Nat} {g : Bool} {z : Option Value} (h : tinf P t = some (k, b, g, z)) (w : World) : (sizeOf t).run P w = .ok k w := by
  obtain ⟨i, u, h1, h2, h3, _⟩ := tinf_spec h
  simp [sizeOf, typeInfo, h1, h3]
theorem run_zeroValue {P : Program} {t : TypeId} {k b : Nat} {g : Bool} {z : Value} (h : tinf P t = some (k, b, g, some z)) (w : World) : (zeroValue t).run P w = .ok z w := by
  obtain ⟨i, u, h1, h2, _, _, h5, _⟩ := tinf_spec h
  simp [zeroValue, typeInfo, h1, h5]

/-- What is loaded out of cells that hold cs, from a place on. -/
def loaded (g : Bool) (k : Nat) (cs : List C) : Option A := match g with
  | true => if k ≤ cs.length then some (.agg (cs.take k)) else none
  | false => match cs with | x :: _ => some (.c x) | [] => none

theorem run_loadVar {P : Program} {t : TypeId} {k b : Nat} {g : Bool} {z : Option Value} (h : tinf P t = some (k, b, g, z)) {cs : List C} {y : A} (hl : loaded g k cs = some y) {a : Addr} {f : Nat → Value}
    (hc : ∀ j, j < cs.length → w.cell? (a.add j) = some (f j)) (hr : ∀ (j : Nat) (x : C), cs[j]? = some x → RepC F ρ w x (f j)) : ∃ v, (loadVar t a).run P w = .ok v w ∧ RepA F ρ w y v := by
  cases g with
  | true =>
    simp only [loaded] at hl
    by_cases hk : k ≤ cs.length
    · rw [if_pos hk] at hl; cases hl
      have hrun := run_loadCells (P := P) w a k f (fun j hj => hc j (by omega))
      refine ⟨.agg ((List.range k).map f).toArray, by simp [loadVar, run_isAgg h, run_sizeOf h, hrun], .agg (by simp [hk]) (fun i x hx => ?_)⟩
      have hi : i < k := by
        have := (List.getElem?_eq_some_iff.1 hx).1; simp at this; omega
      rw [List.getElem?_take_of_lt hi] at hx
      simpa [Array.getD_eq_getD_getElem?, hi] using hr i x hx
    · rw [if_neg hk] at hl; cases hl
  | false =>
    cases cs with
    | nil => simp [loaded] at hl
    | cons x cs =>
      simp only [loaded, Option.some.injEq] at hl; subst hl
      have h0 := hc 0 (by simp)
      have e0 : a.add 0 = a := by simp [Addr.add]
      rw [e0] at h0
      exact ⟨f 0, by simp [loadVar, run_isAgg h, h0], .c (hr 0 x rfl)⟩

theorem box_cells {m off : Nat} {cs : List C} {δ : Desc} {arr : Array Value} {t : TypeId} (hb : w.heap[δ.blk]? = some (.cells arr t (0, 0))) (hl : arr.size = cs.length) (j : Nat) (hj : j < (cs.drop off).length) :
    w.cell? ((⟨δ.blk, off, none⟩ : Addr).add j) = some (arr.getD (off + j) undef) := by
  rw [add_none, cell_of_row w δ.blk _ arr t (0, 0) hb]
  have : off + j < arr.size := by rw [hl]; simp at hj; omega
  simp [Array.getD_eq_getD_getElem?, this]

/-- A load out of an object. -/
theorem r_load {t : TypeId} {x : Operand} {m off k b : Nat} {g : Bool} {z : Option Value} {cs : List C} {y : A} (ht : tinf G.P t = some (k, b, g, z)) (hx : ev sl x = some (.c (.ref m off))) (hm : lk mem m = some (.box cs)) (hl : loaded g k (cs.drop off) = some y)
    (hn : d < G.n) : OpR G ⟨some d, .load t x, ty, pos, af, gd⟩ sl mem ⟨rd sl [x], [(m, .box cs)], [(d, y)], []⟩ :=
  .pure [x] rfl hn (fun p hp => by simp at hp; subst hp; rw [← lk_eq]; exact hm) fun K ρ s a w hK hs hrs hrm => by
    have hr := rep_of hs hrs (by simp) (fun v e => by subst e; simp [ev] at hx) hx
    generalize hv : a.eval x = v at hr
    have hsat := hs.mem m _ (hrm (m, .box cs) (by simp))
    cases hr with
    | c hr =>
      cases hr with
      | ref hδ =>
        cases hsat with
        | box h1 h2 h3 h4 =>
          rw [hδ] at h1; cases h1
          rename_i δ arr tt
          obtain ⟨u, q1, q2⟩ := run_loadVar (P := G.P) ht hl (a := ⟨δ.blk, off, none⟩) (f := fun j => arr.getD (off + j) undef) (fun j hj => box_cells (m := m) h2 h3 j hj)
            (fun j x hx => h4 (off + j) x (by simpa [List.getElem?_drop] using hx))
          exact ⟨u, by simp [execOp, hv, Instr.loadAt, Instr.sureAddr, q1], q2⟩

/-- A load out of what is read. -/
theorem r_loadp {t : TypeId} {x : Operand} {k b : Nat} {g : Bool} {z : Option Value} {cs : List D} {y : A} (ht : tinf G.P t = some (k, b, g, z)) (hx : ev sl x = some (.c (.pel cs))) (hl : loaded g k (cs.map C.d) = some y)
    (hn : d < G.n) : OpR G ⟨some d, .load t x, ty, pos, af, gd⟩ sl mem ⟨rd sl [x], [], [(d, y)], []⟩ :=
  .pure [x] rfl hn (by simp) fun K ρ s a w hK hs hrs hrm => by
    have hr := rep_of hs hrs (by simp) (fun v e => by subst e; simp [ev] at hx) hx
    generalize hv : a.eval x = v at hr
    cases hr with
    | c hr =>
      cases hr with
      | pel g' off f hc hr =>
        obtain ⟨u, q1, q2⟩ := run_loadVar (P := G.P) (ρ := ρ) ht hl (a := ⟨g', off, none⟩) (f := f) (fun j hj => by rw [add_none]; exact (hc j (by simpa using hj)).2)
            (fun j x hx => by
              simp only [List.getElem?_map, Option.map_eq_some_iff] at hx
              obtain ⟨y, hy, rfl⟩ := hx
              exact .d (hr j y hy))
        exact ⟨u, by simp [execOp, hv, Instr.loadAt, Instr.sureAddr, q1], q2⟩

/-- A field's place: its offset, and its type's size. -/
def fieldOf (P : Program) (t : TypeId) (f : Nat) : Option (Nat × Nat × Bool) :=
  match P.underlying t with
  | some (.struct fields) => match fields[f]? with
    | some fd => match tinf P fd.type with
      | some (k, _, g, _) => some (fd.offset, k, g)
      | none => none
    | none => none
  | _ => none
theorem fieldOf_spec {P : Program} {t : TypeId} {f off k : Nat} {g : Bool} (h : fieldOf P t f = some (off, k, g)) :
    ∃ fields fd b z, P.underlying t = some (.struct fields) ∧ fields[f]? = some fd ∧ fd.offset = off ∧ tinf P fd.type = some (k, b, g, z) := by
  unfold fieldOf at h
  cases hu : P.underlying t with
  | none => rw [hu] at h; cases h
  | some u =>
    rw [hu] at h
    cases u <;> simp only [reduceCtorEq] at h
    rename_i fields
    cases hf : fields[f]? with
    | none => rw [hf] at h; cases h
    | some fd =>
      rw [hf] at h
      cases hi : tinf P fd.type with
      | none => simp only [hi] at h; cases h
      | some q =>
        obtain ⟨k', b, g', z⟩ := q
        simp only [hi, Option.some.injEq, Prod.mk.injEq] at h
        obtain ⟨rfl, rfl, rfl⟩ := h
        exact ⟨fields, fd, b, z, rfl, hf, rfl, hi⟩

theorem r_fieldAddr {t : TypeId} {x : Operand} {f m off fo k : Nat} {g : Bool} (hf : fieldOf G.P t f = some (fo, k, g)) (hk : k ≠ 0) (hx : ev sl x = some (.c (.ref m off))) (hn : d < G.n) :
    OpR G ⟨some d, .fieldAddr t x f, ty, pos, af, gd⟩ sl mem ⟨rd sl [x], [], [(d, .c (.ref m (off + fo)))], []⟩ :=
  .pure [x] rfl hn (by simp) fun K ρ s a w hK hs hrs hrm => by
    have hr := rep_of hs hrs (by simp) (fun v e => by subst e; simp [ev] at hx) hx
    generalize hv : a.eval x = v at hr
    obtain ⟨fields, fd, b, z, h1, h2, h3, h4⟩ := fieldOf_spec hf
    cases hr with
    | c hr =>
      cases hr with
      | ref hδ =>
        refine ⟨_, ?_, .c (.ref hδ)⟩
        simp [execOp, hv, Instr.fieldAt, run_underlying h1, h2, Instr.sureAddr, fieldPlace, run_sizeOf h4, hk, add_none, h3]
theorem r_fieldAddrp {t : TypeId} {x : Operand} {f fo k : Nat} {g : Bool} {cs : List D} (hf : fieldOf G.P t f = some (fo, k, g)) (hk : k ≠ 0) (hx : ev sl x = some (.c (.pel cs))) (hn : d < G.n) :
    OpR G ⟨some d, .fieldAddr t x f, ty, pos, af, gd⟩ sl mem ⟨rd sl [x], [], [(d, .c (.pel (cs.drop fo)))], []⟩ :=
  .pure [x] rfl hn (by simp) fun K ρ s a w hK hs hrs hrm => by
    have hr := rep_of hs hrs (by simp) (fun v e => by subst e; simp [ev] at hx) hx
    generalize hv : a.eval x = v at hr
    obtain ⟨fields, fd, b, z, h1, h2, h3, h4⟩ := fieldOf_spec hf
    cases hr with
    | c hr =>
      cases hr with
      | pel g' off ff hc hr =>
        refine ⟨.pointer (some ⟨g', off + fo, none⟩), ?_, .c (.pel g' (off + fo) (fun j => ff (fo + j)) (fun j hj => ?_) (fun j x hx => hr (fo + j) x (by simpa [List.getElem?_drop] using hx)))⟩
        · simp [execOp, hv, Instr.fieldAt, run_underlying h1, h2, Instr.sureAddr, fieldPlace, run_sizeOf h4, hk, add_none, h3]
        · have := hc (fo + j) (by simp at hj; omega)
          rwa [← Nat.add_assoc] at this

/-- A field of a struct's value. -/
def fieldA (g : Bool) (off k : Nat) (cs : List C) : Option A := loaded g k (cs.drop off)
theorem r_field {t : TypeId} {x : Operand} {f fo k : Nat} {g : Bool} {cs : List C} {y : A} (hf : fieldOf G.P t f = some (fo, k, g)) (hx : ev sl x = some (.agg cs)) (hy : fieldA g fo k cs = some y) (hn : d < G.n) :
    OpR G ⟨some d, .field t x f, ty, pos, af, gd⟩ sl mem ⟨rd sl [x], [], [(d, y)], []⟩ :=
  .pure [x] rfl hn (by simp) fun K ρ s a w hK hs hrs hrm => by
    have hr := rep_of hs hrs (by simp) (fun v e => by subst e; simp [ev] at hx) hx
    generalize hv : a.eval x = v at hr
    obtain ⟨fields, fd, b, z, h1, h2, h3, h4⟩ := fieldOf_spec hf
    cases hr with
    | agg hl hc =>
      rename_i vs
      cases g with
      | true =>
        simp only [fieldA, loaded] at hy
        by_cases hk : k ≤ (cs.drop fo).length
        · rw [if_pos hk] at hy; cases hy
          refine ⟨.agg (vs.extract fo (fo + k)), by simp [execOp, hv, Instr.field, run_underlying h1, h2, asAgg, part, run_isAgg h4, run_sizeOf h4, h3], .agg ?_ (fun i x hx => ?_)⟩
          · simp at hk ⊢; omega
          · have hi : i < k := by have := (List.getElem?_eq_some_iff.1 hx).1; simp at this; omega
            rw [List.getElem?_take_of_lt hi, List.getElem?_drop] at hx
            have := hc (fo + i) x hx
            have hlt : fo + i < vs.size := by rw [← hl]; exact (List.getElem?_eq_some_iff.1 hx).1
            have e2 : (vs.extract fo (fo + k)).getD i undef = vs.getD (fo + i) undef := by
              simp [Array.getD_eq_getD_getElem?, Array.getElem?_extract, hi, hlt, show i < min (fo + k) vs.size - fo by omega]
            rw [e2]; exact this
        · rw [if_neg hk] at hy; cases hy
      | false =>
        simp only [fieldA, loaded] at hy
        cases hd : cs.drop fo with
        | nil => rw [hd] at hy; cases hy
        | cons c rest =>
          rw [hd] at hy; cases hy
          have hc0 : cs[fo]? = some c := by have := congrArg (fun l => l[0]?) hd; simpa [List.getElem?_drop] using this
          have hlt : fo < vs.size := by rw [← hl]; exact (List.getElem?_eq_some_iff.1 hc0).1
          refine ⟨vs.getD fo undef, ?_, .c (hc fo c hc0)⟩
          simp [execOp, hv, Instr.field, run_underlying h1, h2, asAgg, part, run_isAgg h4, h3, Array.getD_eq_getD_getElem?, Array.getElem?_eq_getElem hlt]

/-- A pointer that is one. -/
theorem r_nilCheck {x : Operand} {c : C} (hx : ev sl x = some (.c c)) (hc : (∃ m off, c = .ref m off) ∨ ∃ cs, c = .pel cs) (hn : d < G.n) :
    OpR G ⟨some d, .nilCheck x, ty, pos, af, gd⟩ sl mem ⟨rd sl [x], [], [(d, .c c)], []⟩ :=
  .pure [x] rfl hn (by simp) fun K ρ s a w hK hs hrs hrm => by
    have hr := rep_of hs hrs (by simp) (fun v e => by subst e; simp only [ev, Option.some.injEq, A.c.injEq] at hx; subst hx; rcases hc with ⟨_, _, h⟩ | ⟨_, h⟩ <;> cases h) hx
    generalize hv : a.eval x = v at hr
    refine ⟨v, ?_, hr⟩
    rcases hc with ⟨m, off, rfl⟩ | ⟨cs, rfl⟩
    · cases hr with | c hr => cases hr; simp [execOp, hv]
    · cases hr with | c hr => cases hr; simp [execOp, hv]

theorem run_equal_ptr_nil {P : Program} {t e : TypeId} (ht : P.underlying t = some (.pointer e)) (a : Addr) (w : World) : (Op.equal t (.pointer (some a)) (.pointer none)).run P w = .ok false w := by
  unfold Op.equal
  obtain ⟨n, hn⟩ : ∃ n, Op.maxDepth = n + 1 := ⟨9999, rfl⟩
  rw [hn]
  simp only [Op.equalIn, Sem.run_bind, run_underlying ht, Result.andThen_ok, Sem.run_pure]
theorem run_ptr_eql {P : Program} {t e : TypeId} (ht : P.underlying t = some (.pointer e)) (a : Addr) (x y : Operand) (w : World) : (do eqGuard .eql t x y (.pointer (some a)) (.pointer none); binOp .eql t (.pointer (some a)) (.pointer none) : Sem Value).run P w = .ok (.bool false) w := by
  have e1 : binOp .eql t (.pointer (some a)) (.pointer none) = (do pure (.bool (← Op.equal t (.pointer (some a)) (.pointer none)))) := rfl
  have e2 : eqGuard .eql t x y (.pointer (some a)) (.pointer none) = pure () := rfl
  rw [e1, e2]
  simp only [Sem.run_bind, Sem.run_pure, Result.andThen_ok, run_equal_ptr_nil ht]
theorem run_ptr_neq {P : Program} {t e : TypeId} (ht : P.underlying t = some (.pointer e)) (a : Addr) (x y : Operand) (w : World) : (do eqGuard .neq t x y (.pointer (some a)) (.pointer none); binOp .neq t (.pointer (some a)) (.pointer none) : Sem Value).run P w = .ok (.bool true) w := by
  have e1 : binOp .neq t (.pointer (some a)) (.pointer none) = (do pure (.bool (!(← Op.equal t (.pointer (some a)) (.pointer none))))) := rfl
  have e2 : eqGuard .neq t x y (.pointer (some a)) (.pointer none) = pure () := rfl
  rw [e1, e2]
  simp only [Sem.run_bind, Sem.run_pure, Result.andThen_ok, run_equal_ptr_nil ht, Bool.not_false]

/-- x == nil of a pointer that is one. -/
theorem r_ptrEqNil {t yt : TypeId} {x : Operand} {e : TypeId} {m off : Nat} (ht : G.P.underlying t = some (.pointer e)) (hx : ev sl x = some (.c (.ref m off))) (hn : d < G.n) :
    OpR G ⟨some d, .binOp .eql t x (.const (.pointer none)) yt, ty, pos, af, gd⟩ sl mem ⟨rd sl [x], [], [(d, A.bool false)], []⟩ :=
  .pure [x] rfl hn (by simp) fun K ρ s a w hK hs hrs hrm => by
    have hr := rep_of hs hrs (by simp) (fun v e => by subst e; simp [ev] at hx) hx
    generalize hv : a.eval x = v at hr
    cases hr with | c hr => cases hr with | ref hδ =>
      rename_i δ
      refine ⟨.bool false, ?_, .c (.d (.v rfl))⟩
      have := run_ptr_eql ht ⟨δ.blk, off, none⟩ x (.const (.pointer none)) w
      simp only [Sem.run_bind] at this
      have hc : a.eval (.const (.pointer none)) = .pointer none := rfl
      simp only [execOp, hv, hc, Sem.run_bind, this, Result.andThen_ok, Sem.run_pure]
theorem r_ptrNeNil {t yt : TypeId} {x : Operand} {e : TypeId} {m off : Nat} (ht : G.P.underlying t = some (.pointer e)) (hx : ev sl x = some (.c (.ref m off))) (hn : d < G.n) :
    OpR G ⟨some d, .binOp .neq t x (.const (.pointer none)) yt, ty, pos, af, gd⟩ sl mem ⟨rd sl [x], [], [(d, A.bool true)], []⟩ :=
  .pure [x] rfl hn (by simp) fun K ρ s a w hK hs hrs hrm => by
    have hr := rep_of hs hrs (by simp) (fun v e => by subst e; simp [ev] at hx) hx
    generalize hv : a.eval x = v at hr
    cases hr with | c hr => cases hr with | ref hδ =>
      rename_i δ
      refine ⟨.bool true, ?_, .c (.d (.v rfl))⟩
      have := run_ptr_neq ht ⟨δ.blk, off, none⟩ x (.const (.pointer none)) w
      simp only [Sem.run_bind] at this
      have hc : a.eval (.const (.pointer none)) = .pointer none := rfl
      simp only [execOp, hv, hc, Sem.run_bind, this, Result.andThen_ok, Sem.run_pure]

theorem RepD.weakNn {nn : Bool} {rows : List (List D)} {v : Value} (h : RepD F w (.sl nn rows) v) : RepD F w (.sl false rows) v := by
  generalize hx : D.sl nn rows = x at h
  cases h with
  | v => cases hx
  | sl0 a c hn => cases hx; exact .sl0 a c (by simp)
  | sl g off k c f hc hk hcell hr => cases hx; exact .sl g off k c f hc hk hcell hr
theorem RepC.ownD {m : Nat} {rows : List (List D)} {v : Value} (h : RepC F ρ w (.own m rows) v) : RepD F w (.sl false rows) v := by
  cases h with
  | own h hl hr => exact hr.weakNn
  | ownNil h hc => exact .sl0 none 0 (by simp)

/-- The place of an element of a slice that is read. -/
theorem r_indexAddr {t e : TypeId} {x i : Operand} {nn : Bool} {rows : List (List D)} {k b : Nat} {g : Bool} {z : Option Value} {kk : IntKind} {j : Int} {r : List D} {y : A} (ht : G.P.underlying t = some (.slice e)) (hti : tinf G.P e = some (k, b, g, z))
    (hx : ev sl x = some y) (hy : y = .c (.d (.sl nn rows)) ∨ ∃ m, y = .c (.own m rows)) (hi : ev sl i = some (A.val (.int kk j))) (hk : ∀ r ∈ rows, r.length = k) (h0 : 0 ≤ j) (hr : rows[j.toNat]? = some r) (hn : d < G.n) :
    OpR G ⟨some d, .indexAddr t x i, ty, pos, af, gd⟩ sl mem ⟨rd sl [x, i], [], [(d, .c (.pel r))], []⟩ :=
  .pure [x, i] rfl hn (by simp) fun K ρ s a w hK hs hrs hrm => by
    have hr0 := rep_of hs hrs (by simp) (fun v e => by subst e; simp only [ev, Option.some.injEq] at hx; subst hx; rcases hy with h | ⟨_, h⟩ <;> cases h) hx
    generalize hv : a.eval x = v at hr0
    have hrow : RepD (Fs K ρ s.mem) w (.sl false rows) v := by
      rcases hy with rfl | ⟨m, rfl⟩
      · cases hr0 with | c hr0 => cases hr0 with | d h => exact h.weakNn
      · cases hr0 with | c hr0 => exact hr0.ownD
    obtain ⟨A1, c, rfl, _, e0 | ⟨g1, off, f, rfl, _, hc, hrr⟩⟩ := hrow.opened hk
    · rw [e0] at hr; simp at hr
    · have hlt : j.toNat < rows.length := (List.getElem?_eq_some_iff.1 hr).1
      have hj : j < rows.length := by omega
      have hlr : r.length = k := hk r (List.mem_of_getElem? hr)
      refine ⟨.pointer (some ⟨g1, off + j.toNat * k, none⟩), ?_, .c (.pel g1 (off + j.toNat * k) (f j.toNat) (fun q hq => hc j.toNat q hlt (by omega)) (fun q x hx => hrr j.toNat q r x hr hx))⟩
      simp [execOp, hv, val_of hs hrs (by simp) hi, Instr.indexAt, asIntOf, run_underlying ht, h0, hj, run_sizeOf hti, add_none]

/-- The place of an element of a row that is written. -/
theorem r_indexAddrRow {t e : TypeId} {x i : Operand} {m n k b : Nat} {g : Bool} {z : Option Value} {kk : IntKind} {j : Int} (ht : G.P.underlying t = some (.slice e)) (hti : tinf G.P e = some (k, b, g, z))
    (hx : ev sl x = some (.c (.row m n))) (hi : ev sl i = some (A.val (.int kk j))) (h0 : 0 ≤ j) (h1 : j < n) (hn : d < G.n) :
    OpR G ⟨some d, .indexAddr t x i, ty, pos, af, gd⟩ sl mem ⟨rd sl [x, i], [], [(d, .c (.ref m (j.toNat * k)))], []⟩ :=
  .pure [x, i] rfl hn (by simp) fun K ρ s a w hK hs hrs hrm => by
    have hr0 := rep_of hs hrs (by simp) (fun v e => by subst e; simp [ev] at hx) hx
    generalize hv : a.eval x = v at hr0
    cases hr0 with | c hr0 => cases hr0 with | row hδ =>
      refine ⟨_, ?_, .c (.ref hδ)⟩
      simp [execOp, hv, val_of hs hrs (by simp) hi, Instr.indexAt, asIntOf, run_underlying ht, h0, h1, run_sizeOf hti, add_none]

/-! New objects -/

/-- A value's cells, told. -/
def A.cells : A → Option (List C)
  | .c x => some [x]
  | .agg cs => some cs
  | .tup _ => none
theorem RepA.cells_spec {F : Loc} {ρ : Ren} {w : World} {x : A} {v : Value} {cs : List C} (h : RepA F ρ w x v) (hc : x.cells = some cs) : v.cells.size = cs.length ∧ (∀ (i : Nat) (c : C), cs[i]? = some c → RepC F ρ w c (v.cells.getD i undef)) := by
  cases h with
  | c h =>
    simp only [A.cells, Option.some.injEq] at hc; subst hc
    have h1 := h.one
    have e : v.cells = #[v] := by cases v <;> first | rfl | (simp [Value.oneCell'] at h1)
    rw [e]
    refine ⟨rfl, fun i c hi => ?_⟩
    cases i with
    | zero => simp at hi; subst hi; simpa using h
    | succ i => simp at hi
  | agg h1 h2 =>
    simp only [A.cells, Option.some.injEq] at hc; subst hc
    exact ⟨h1.symm, h2⟩
  | tup => simp [A.cells] at hc

theorem sim_new {s : St} {a : Act} (hr : SimR K ρ s a w) {m : Nat} {cs : List C} {arr : Array Value} {t : TypeId} (hm : s.mem.lookup m = none) (hl : arr.size = cs.length) (hc : ∀ (i : Nat) (x : C), cs[i]? = some x → RepC (Fs K ρ s.mem) ρ w x (arr.getD i undef)) :
    ∃ ρ', ρ' m = some ⟨w.heap.size, 0, 0⟩ ∧ SimR K ρ' { s with mem := (m, .box cs) :: s.mem } a (w.alloc (.cells arr t)) := by
  refine ⟨ρ.set m ⟨w.heap.size, 0, 0⟩, Ren.set_same _ _ _, hr.fresh (ob := .box cs) (δ := ⟨w.heap.size, 0, 0⟩) (arr := arr) (t := t) hm (fun g o x => x) (fun F' hst hF' => ?_)⟩
  exact .box (Ren.set_same _ _ _) (alloc_heap_new w _) hl (fun i x hx => (hc i x hx).stays hst (Ren.le_set (hr.dom m hm) _))

theorem okOf_new {xs : List Operand} {m : Nat} {cs : List C} (hd : o.dst = some d) (hn : d < G.n) (hm : lk mem m = none)
    (h : ∀ (K : Ctx) (ρ : Ren) (s : St) (a : Act) (w : World), K.fits G → SimR K ρ s a w → (∀ p ∈ rd sl xs, s.sl.lookup p.1 = some p.2) → ∃ arr t, arr.size = cs.length ∧ (∀ (i : Nat) (x : C), cs[i]? = some x → RepC (Fs K ρ s.mem) ρ w x (arr.getD i undef)) ∧
      (execOp a.eval o).run G.P w = .ok (.value (.pointer (some ⟨w.heap.size, 0, none⟩))) (w.alloc (.cells arr t))) : OpR G o sl mem ⟨rd sl xs, [], [(d, .c (.ref m 0))], [(m, .box cs)]⟩ where
  ok := fun K hK s a w hs ht next Q hnx => by
    obtain ⟨ρ, hr⟩ := hs
    obtain ⟨arr, t, h1, h2, h3⟩ := h K ρ s a w hK hr ht.rs
    have hm' : s.mem.lookup m = none := by
      have := ht.wm (m, .box cs) (by simp)
      simpa using this
    obtain ⟨ρ', q1, q2⟩ := sim_new hr (t := t) hm' h1 h2
    unfold Oper.wp
    rw [h3, Oper.upon_value, hd]
    exact hnx _ _ ⟨ρ', q2.put (by rw [hK.1]; exact hn) (.c (.ref q1))⟩
  rs := rd_ok sl xs
  rm := by simp
  wm := fun p hp => by simp at hp; subst hp; exact .inr (by rw [← lk_eq]; exact hm)

def plainCells (z : Value) : List C := z.cells.toList.map fun v => .d (.v v)
theorem plainCells_spec {z : Value} (h : z.cells.toList.all (·.oneCell') = true) : z.cells.size = (plainCells z).length ∧ ∀ (i : Nat) (x : C), (plainCells z)[i]? = some x → RepC F ρ w x (z.cells.getD i undef) := by
  refine ⟨by simp [plainCells], fun i x hx => ?_⟩
  simp only [plainCells, List.getElem?_map, Option.map_eq_some_iff] at hx
  obtain ⟨v, hv, rfl⟩ := hx
  have h1 := List.all_eq_true.1 h v (List.mem_of_getElem? hv)
  have : z.cells.getD i undef = v := by
    rw [Array.getElem?_toList] at hv
    simp [Array.getD_eq_getD_getElem?, hv]
  rw [this]; exact .d (.v h1)

/-- A new variable, zero. -/
theorem r_alloc {t : TypeId} {k b : Nat} {g : Bool} {z : Value} (m : Nat) {cs : List C} (ht : tinf G.P t = some (k, b, g, some z)) (hcs : plainCells z = cs) (h1 : z.cells.toList.all (·.oneCell') = true) (hm : lk mem m = none) (hn : d < G.n) :
    OpR G ⟨some d, .alloc t, ty, pos, af, gd⟩ sl mem ⟨rd sl [], [], [(d, .c (.ref m 0))], [(m, .box cs)]⟩ :=
  okOf_new rfl hn hm fun K ρ s a w hK hr hrs => by
    subst hcs
    exact ⟨z.cells, t, (plainCells_spec (F := Fs K ρ s.mem) (ρ := ρ) (w := w) h1).1, (plainCells_spec h1).2, by simp [execOp, Instr.alloc, run_zeroValue ht, newVar, newRow]⟩

/-- A new variable that holds a value. -/
theorem r_box {t : TypeId} {x : Operand} {y : A} (m : Nat) {cs : List C} (hx : ev sl x = some y) (hy : y.cells = some cs) (hm : lk mem m = none) (hn : d < G.n) (hone : ∀ v, x = .const v → v.oneCell' = true) :
    OpR G ⟨some d, .box t x, ty, pos, af, gd⟩ sl mem ⟨rd sl [x], [], [(d, .c (.ref m 0))], [(m, .box cs)]⟩ :=
  okOf_new rfl hn hm fun K ρ s a w hK hr hrs => by
    have h := (rep_of hr hrs (by simp) hone hx).cells_spec hy
    exact ⟨(a.eval x).cells, t, h.1, h.2, by simp [execOp, Instr.box, newVar, newRow]⟩

/-! Stores -/

def putAt (cs : List C) (off : Nat) (ys : List C) : List C := cs.take off ++ ys ++ cs.drop (off + ys.length)

theorem r_store {t : TypeId} {x y : Operand} {m off k b : Nat} {g : Bool} {z : Option Value} {cs ys : List C} {u : A} (ht : tinf G.P t = some (k, b, g, z)) (hx : ev sl x = some (.c (.ref m off))) (hm : lk mem m = some (.box cs)) (hy : ev sl y = some u) (hu : u.cells = some ys)
    (hk : ys.length = k) (hfit : off + ys.length ≤ cs.length) (hone : ∀ v, y = .const v → v.oneCell' = true) :
    OpR G ⟨none, .store t x y, ty, pos, af, gd⟩ sl mem ⟨rd sl [x, y], [(m, .box cs)], [], [(m, .box (putAt cs off ys))]⟩ where
  ok := fun K hK s a w hs htr next Q hnx => by
    obtain ⟨ρ, hr⟩ := hs
    have h1 := rep_of hr htr.rs (by simp) (fun v e => by subst e; simp [ev] at hx) hx
    have h2 := (rep_of hr htr.rs (by simp) hone hy).cells_spec hu
    generalize hv : a.eval x = v at h1
    generalize hvu : a.eval y = vu at h2
    have hm' := htr.rm (m, .box cs) (by simp)
    have hsat := hr.mem m _ hm'
    cases h1 with | c h1 => cases h1 with | ref hδ =>
    cases hsat with
    | box q1 q2 q3 q4 =>
      rw [hδ] at q1; cases q1
      rename_i δ arr tt
      have hone2 : ∀ v ∈ vu.cells.toList, v.oneCell' = true := fun v hv => by
        obtain ⟨i, hi⟩ := List.mem_iff_getElem?.1 hv
        have hlt : i < ys.length := by rw [← h2.1]; have := (List.getElem?_eq_some_iff.1 hi).1; simpa using this
        have := (h2.2 i ys[i] (List.getElem?_eq_getElem hlt)).one
        rw [Array.getElem?_toList] at hi
        simpa [Array.getD_eq_getD_getElem?, hi] using this
      have hrun := run_storeCells_at (P := G.P) δ.blk off tt vu.cells.toList 0 arr w q2 (by rw [q3, Array.length_toList, h2.1]; omega) hone2
      simp only [Nat.add_zero] at hrun
      generalize harr : (arr.toList.take off ++ vu.cells.toList ++ arr.toList.drop (off + vu.cells.toList.length)).toArray = arr' at hrun
      have hpre : (arr.toList.take off).length = off := by rw [List.length_take, Array.length_toList]; omega
      have hl2 : vu.cells.toList.length = ys.length := by rw [Array.length_toList, h2.1]
      have hsz : arr'.size = arr.size := by
        rw [← harr]; simp only [List.size_toArray, List.length_append, hpre, List.length_drop, Array.length_toList]; rw [← Array.length_toList, hl2]; omega
      have hlen : (putAt cs off ys).length = cs.length := by simp only [putAt, List.length_append, List.length_take, List.length_drop]; omega
      have hsim := hr.store hm' hδ q2 hsz (by rw [hsz, q3, hlen] : arr'.size = (putAt cs off ys).length) (fun i x hx => ?_)
      · refine hnx _ _ ⟨ρ, hsim⟩ |> fun h => ?_
        unfold Oper.wp
        have he : (execOp a.eval ⟨none, .store t x y, ty, pos, af, gd⟩).run G.P w = .ok .skip (w.setRow δ.blk arr') := by
          simp [execOp, hv, hvu, Instr.storeAt, Instr.sureAddr, storeVar, run_sizeOf ht, h2.1, hk, hrun]
        rw [he]
        exact h
      · have hget : arr'.getD i undef = (arr.toList.take off ++ vu.cells.toList ++ arr.toList.drop (off + vu.cells.toList.length)).getD i undef := by
          rw [← harr]; simp [Array.getD_eq_getD_getElem?, List.getD_eq_getElem?_getD]
        rw [hget, List.getD_eq_getElem?_getD]
        simp only [putAt] at hx
        rw [List.append_assoc] at hx ⊢
        rcases Nat.lt_or_ge i off with c1 | c1
        · rw [List.getElem?_append_left (by rw [List.length_take]; omega), List.getElem?_take_of_lt c1] at hx
          rw [List.getElem?_append_left (by rw [hpre]; exact c1), List.getElem?_take_of_lt c1, Array.getElem?_toList, ← Array.getD_eq_getD_getElem?]
          exact q4 i x hx
        · rw [List.getElem?_append_right (by rw [List.length_take]; omega)] at hx
          rw [List.getElem?_append_right (by rw [hpre]; exact c1), hpre]
          rw [show i - (cs.take off).length = i - off by rw [List.length_take]; omega] at hx
          rcases Nat.lt_or_ge (i - off) ys.length with c2 | c2
          · rw [List.getElem?_append_left c2] at hx
            rw [List.getElem?_append_left (by rw [hl2]; exact c2), Array.getElem?_toList, ← Array.getD_eq_getD_getElem?]
            exact h2.2 _ x hx
          · rw [List.getElem?_append_right c2, List.getElem?_drop] at hx
            rw [List.getElem?_append_right (by rw [hl2]; exact c2), List.getElem?_drop, Array.getElem?_toList, ← Array.getD_eq_getD_getElem?, hl2]
            have : off + ys.length + (i - off - ys.length) = i := by omega
            rw [this] at hx ⊢
            exact q4 i x hx
  rs := rd_ok sl _
  rm := fun p hp => by simp at hp; subst hp; rw [← lk_eq]; exact hm
  wm := fun p hp => by simp at hp; subst hp; exact .inl (by simp)

end Go.Am
