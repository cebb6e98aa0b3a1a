/- Structs and slices that are built. -/
import Derived.Test.YtihcfphmikebgaaDoorAm12
import Derived.Laws.Tables
import Derived.Great.BuildSlice
namespace Go.Am
open Go.RowKit
set_option linter.unusedVariables false
set_option linter.unusedSimpArgs false

variable {G : Gm} {Q : Exit → St → Prop} {ops : Array Oper} {o : Oper} {l : List Oper} {sl : List (Nat × A)} {mem : List (Nat × Ob)} {defs : List (Nat × List C)}
variable {d : Nat} {ty : TypeId} {pos : String} {af : Array Edge} {gd : Option (Nat × Bool)} {K : Ctx} {ρ ρ' : Ren} {w w' : World} {F : Loc} {s : St} {a : Act}

theorem foldl_set : ∀ (l : List Value) (k off : Nat) (cs : Array Value), off + k + l.length ≤ cs.size →
    ((l.zipIdx k).foldl (fun cs (p : Value × Nat) => cs.setIfInBounds (off + p.2) p.1) cs).size = cs.size ∧
    ∀ i, ((l.zipIdx k).foldl (fun cs (p : Value × Nat) => cs.setIfInBounds (off + p.2) p.1) cs).getD i undef = if off + k ≤ i ∧ i < off + k + l.length then l.getD (i - off - k) undef else cs.getD i undef
  | [], k, off, cs, h => ⟨rfl, fun i => by rw [if_neg (by simp only [List.length_nil]; omega)]; rfl⟩
  | x :: l, k, off, cs, h => by
    simp only [List.length_cons] at h
    obtain ⟨h1, h2⟩ := foldl_set l (k + 1) off (cs.setIfInBounds (off + k) x) (by simp; omega)
    simp only [List.zipIdx_cons, List.foldl_cons]
    refine ⟨by rw [h1]; simp, fun i => ?_⟩
    rw [h2 i]
    by_cases e : off + k = i
    · subst e
      rw [if_neg (by omega), if_pos (by simp)]
      have : off + k < cs.size := by omega
      simp [Array.getD_eq_getD_getElem?, this, show off + k - off - k = 0 by omega]
    · by_cases c : off + (k + 1) ≤ i ∧ i < off + (k + 1) + l.length
      · rw [if_pos c, if_pos (by simp; omega)]
        have : i - off - k = (i - off - (k + 1)) + 1 := by omega
        rw [this]; simp
      · rw [if_neg c, if_neg (by simp; omega)]
        simp [Array.getD_eq_getD_getElem?, Array.getElem?_setIfInBounds, e]

theorem putAt_get {cs ys : List C} {off : Nat} (h : off + ys.length ≤ cs.length) (i : Nat) : (putAt cs off ys)[i]? = if off ≤ i ∧ i < off + ys.length then ys[i - off]? else cs[i]? := by
  have hp : (cs.take off).length = off := by rw [List.length_take]; omega
  simp only [putAt, List.append_assoc]
  rcases Nat.lt_or_ge i off with c1 | c1
  · rw [List.getElem?_append_left (by omega), List.getElem?_take_of_lt c1, if_neg (by omega)]
  · rw [List.getElem?_append_right (by omega), hp]
    rcases Nat.lt_or_ge i (off + ys.length) with c2 | c2
    · rw [List.getElem?_append_left (by omega), if_pos ⟨c1, c2⟩]
    · rw [List.getElem?_append_right (by omega), List.getElem?_drop, if_neg (by omega)]
      congr 1; omega
theorem putAt_length {cs ys : List C} {off : Nat} (h : off + ys.length ≤ cs.length) : (putAt cs off ys).length = cs.length := by
  simp only [putAt, List.length_append, List.length_take, List.length_drop]; omega

def fillC (place : Nat → Option (Nat × Nat)) (cs : List C) : List (Nat × List C) → Option (List C)
  | [] => some cs
  | (i, ys) :: rest => match place i with
    | none => none
    | some (off, size) => if ys.length = size ∧ off + ys.length ≤ cs.length then fillC place (putAt cs off ys) rest else none

def Cells (F : Loc) (ρ : Ren) (w : World) (cs : List C) (vs : Array Value) : Prop := vs.size = cs.length ∧ ∀ (i : Nat) (x : C), cs[i]? = some x → RepC F ρ w x (vs.getD i undef)

theorem fill_spec {place : Nat → Option (Nat × Nat)} : ∀ (ps : List (Nat × List C)) (vs : List (Nat × Value)) (cs cs' : List C) (arr : Array Value),
    vs.length = ps.length → (∀ (i : Nat) (p : Nat × List C) (q : Nat × Value), ps[i]? = some p → vs[i]? = some q → q.1 = p.1 ∧ Cells F ρ w p.2 q.2.cells) → Cells F ρ w cs arr → fillC place cs ps = some cs' →
    ∃ arr', Instr.fill place arr vs = some arr' ∧ Cells F ρ w cs' arr'
  | [], [], cs, cs', arr, _, _, hc, hf => by simp only [fillC, Option.some.injEq] at hf; subst hf; exact ⟨arr, rfl, hc⟩
  | (i, ys) :: ps, (j, v) :: vs, cs, cs', arr, hl, hp, hc, hf => by
    obtain ⟨h1, h2⟩ := hp 0 (i, ys) (j, v) rfl rfl
    simp only at h1 h2; subst h1
    simp only [fillC] at hf
    simp only [Instr.fill]
    cases hpl : place j with
    | none => rw [hpl] at hf; cases hf
    | some os =>
      obtain ⟨off, size⟩ := os
      rw [hpl] at hf
      simp only at hf ⊢
      by_cases hcond : ys.length = size ∧ off + ys.length ≤ cs.length
      · rw [if_pos hcond] at hf
        rw [if_neg (by rw [h2.1, hc.1]; simp only [Bool.or_eq_true, decide_eq_true_eq, bne_iff_ne]; omega)]
        have hfit : off + 0 + v.cells.toList.length ≤ arr.size := by rw [Array.length_toList, h2.1, hc.1]; omega
        obtain ⟨e1, e2⟩ := foldl_set v.cells.toList 0 off arr hfit
        have heq : (v.cells.zipIdx.foldl (fun cs (p : Value × Nat) => cs.setIfInBounds (off + p.2) p.1) arr) = ((v.cells.toList.zipIdx 0).foldl (fun cs (p : Value × Nat) => cs.setIfInBounds (off + p.2) p.1) arr) := by
          rw [← Array.foldl_toList]; simp [Array.toList_zipIdx]
        refine fill_spec ps vs (putAt cs off ys) cs' _ (by simpa using hl) (fun n p q a b => hp (n + 1) p q (by simpa using a) (by simpa using b)) ?_ hf
        have heq' : (v.cells.zipIdx.foldl (fun cs (c, j) => cs.setIfInBounds (off + j) c) arr) = ((v.cells.toList.zipIdx 0).foldl (fun cs (p : Value × Nat) => cs.setIfInBounds (off + p.2) p.1) arr) := heq
        rw [heq']
        refine ⟨by rw [e1, putAt_length hcond.2, hc.1], fun n x hx => ?_⟩
        rw [e2 n]
        rw [putAt_get hcond.2] at hx
        by_cases hn : off ≤ n ∧ n < off + ys.length
        · rw [if_pos hn] at hx
          rw [if_pos (by rw [Array.length_toList, h2.1]; omega)]
          have := h2.2 (n - off) x hx
          simpa [List.getD_eq_getElem?_getD, Array.getD_eq_getD_getElem?] using this
        · rw [if_neg hn] at hx
          rw [if_neg (by rw [Array.length_toList, h2.1]; omega)]
          exact hc.2 n x hx
      · rw [if_neg hcond] at hf; cases hf

def evParts (sl : List (Nat × A)) : List (Nat × Operand) → Option (List (Nat × List C))
  | [] => some []
  | (i, x) :: l => match ev sl x with
    | some y => match y.cells with
      | some cs => match evParts sl l with
        | some r => some ((i, cs) :: r)
        | none => none
      | none => none
    | none => none
theorem evParts_spec {sl : List (Nat × A)} : ∀ {l : List (Nat × Operand)} {r : List (Nat × List C)}, evParts sl l = some r → l.length = r.length ∧ ∀ (n : Nat) (q : Nat × Operand) (p : Nat × List C), l[n]? = some q → r[n]? = some p → q.1 = p.1 ∧ ∃ y, ev sl q.2 = some y ∧ y.cells = some p.2
  | [], r, h => by simp [evParts] at h; subst h; simp
  | (i, x) :: l, r, h => by
    simp only [evParts] at h
    cases h1 : ev sl x with
    | none => rw [h1] at h; cases h
    | some y =>
      rw [h1] at h; simp only at h
      cases h2 : y.cells with
      | none => rw [h2] at h; cases h
      | some cs =>
        rw [h2] at h; simp only at h
        cases h3 : evParts sl l with
        | none => rw [h3] at h; cases h
        | some r' =>
          rw [h3] at h; simp only [Option.some.injEq] at h; subst h
          obtain ⟨a1, a2⟩ := evParts_spec h3
          refine ⟨by simp [a1], fun n q p b1 b2 => ?_⟩
          cases n with
          | zero => simp at b1 b2; subst b1; subst b2; exact ⟨rfl, y, h1, h2⟩
          | succ n => exact a2 n q p (by simpa using b1) (by simpa using b2)

theorem parts_cells {s : St} {a : Act} (hs : SimR K ρ s a w) {parts : Array (Nat × Operand)} {ps : List (Nat × List C)} (hrs : ∀ p ∈ rd sl (parts.toList.map (·.2)), s.sl.lookup p.1 = some p.2)
    (hp : evParts sl parts.toList = some ps) (hone : oneAll (parts.toList.map (·.2)) = true) :
    (parts.map fun (i, x) => (i, a.eval x)).toList.length = ps.length ∧ ∀ (i : Nat) (p : Nat × List C) (q : Nat × Value), ps[i]? = some p → (parts.map fun (i, x) => (i, a.eval x)).toList[i]? = some q → q.1 = p.1 ∧ Cells (Fs K ρ s.mem) ρ w p.2 q.2.cells := by
  obtain ⟨h1, h2⟩ := evParts_spec hp
  refine ⟨by simpa using h1, fun i p q hp hq => ?_⟩
  simp only [Array.toList_map, List.getElem?_map, Option.map_eq_some_iff] at hq
  obtain ⟨x, hx, rfl⟩ := hq
  obtain ⟨e1, y, e2, e3⟩ := h2 i x p hx hp
  have hm : x.2 ∈ parts.toList.map (·.2) := List.mem_map.2 ⟨x, List.mem_of_getElem? hx, rfl⟩
  exact ⟨e1, (rep_of hs hrs hm (oneAll_spec hone hm) e2).cells_spec e3⟩

/-- A struct's fields, each at its place with its size; the struct's zero value. -/
def placesOf (P : Program) (t : TypeId) : Option (List (Nat × Nat) × Value) :=
  match P.info? t, P.underlying t with
  | some it, some (.struct fields) => match it.zero, fields.toList.mapM (fun f => (P.info? f.type).map fun i => (f.offset, i.size)) with
    | some z, some places => some (places, z)
    | _, _ => none
  | _, _ => none
theorem built_of {P : Program} {t : TypeId} {places : List (Nat × Nat)} {z : Value} (h : placesOf P t = some (places, z)) (vs : List (Nat × Value)) : P.built t vs = Instr.fill (places.toArray[·]?) z.cells vs := by
  unfold placesOf at h
  unfold Program.built
  cases hi : P.info? t with
  | none => rw [hi] at h; cases h
  | some it =>
    cases hu : P.underlying t with
    | none => rw [hi, hu] at h; cases h
    | some u =>
      rw [hi, hu] at h
      cases u <;> simp only [reduceCtorEq] at h
      rename_i fields
      simp only
      cases hz : it.zero with
      | none => rw [hz] at h; cases h
      | some z' =>
        cases hm : fields.toList.mapM (fun f => (P.info? f.type).map fun i => (f.offset, i.size)) with
        | none => rw [hz, hm] at h; cases h
        | some pl =>
          rw [hz, hm] at h
          simp only [Option.some.injEq, Prod.mk.injEq] at h
          obtain ⟨rfl, rfl⟩ := h
          rfl

/-- A struct of parts. -/
theorem r_build {t : TypeId} {parts : Array (Nat × Operand)} {places : List (Nat × Nat)} {z : Value} {ps : List (Nat × List C)} {zs cs : List C} (ht : placesOf G.P t = some (places, z)) (h1 : z.cells.toList.all (·.oneCell') = true) (hz : plainCells z = zs)
    (hp : evParts sl parts.toList = some ps) (hone : oneAll (parts.toList.map (·.2)) = true) (hf : fillC (places[·]?) zs ps = some cs) (hn : d < G.n) :
    OpR G ⟨some d, .build t parts, ty, pos, af, gd⟩ sl mem ⟨rd sl (parts.toList.map (·.2)), [], [(d, .agg cs)], []⟩ :=
  .pure (parts.toList.map (·.2)) rfl hn (by simp) fun K ρ s a w hK hs hrs _ => by
    subst hz
    obtain ⟨q1, q2⟩ := parts_cells hs hrs hp hone
    obtain ⟨arr', e1, e2⟩ := fill_spec (F := Fs K ρ s.mem) (ρ := ρ) (w := w) ps _ (plainCells z) cs z.cells q1 q2 ⟨(plainCells_spec (F := Fs K ρ s.mem) (ρ := ρ) (w := w) h1).1, (plainCells_spec h1).2⟩ hf
    have hb : G.P.built t (parts.map fun (i, x) => (i, a.eval x)).toList = some arr' := by
      rw [built_of ht, ← e1]; congr 1; funext i; simp
    exact ⟨.agg arr', by simp only [execOp, Sem.run_bind, run_build w t _ _ hb, Result.andThen_ok, Sem.run_pure], .agg e2.1.symm e2.2⟩

/-! A slice of parts -/

/-- A struct's cells, or one cell, all of them data. -/
def C.data : List C → Option (List D)
  | [] => some []
  | .d x :: l => match C.data l with
    | some r => some (x :: r)
    | none => none
  | _ :: _ => none
theorem C.data_spec : ∀ {cs : List C} {ds : List D}, C.data cs = some ds → cs = ds.map C.d
  | [], ds, h => by simp [C.data] at h; subst h; rfl
  | c :: l, ds, h => by
    cases c <;> simp only [C.data, reduceCtorEq] at h
    rename_i x
    cases hr : C.data l with
    | none => rw [hr] at h; cases h
    | some r => rw [hr] at h; simp only [Option.some.injEq] at h; subst h; simp [C.data_spec hr]

/-- Parts 0, 1, 2, .. in this order, each of k cells. -/
def rowsOf (k : Nat) : Nat → List (Nat × List C) → Option (List (List D))
  | _, [] => some []
  | n, (i, cs) :: l => if i = n ∧ cs.length = k then match C.data cs, rowsOf k (n + 1) l with
    | some r, some rs => some (r :: rs)
    | _, _ => none
    else none
theorem rowsOf_spec {k : Nat} : ∀ {ps : List (Nat × List C)} {n : Nat} {rows : List (List D)}, rowsOf k n ps = some rows → ps.length = rows.length ∧ (∀ r ∈ rows, r.length = k) ∧ ∀ (i : Nat) (p : Nat × List C) (r : List D), ps[i]? = some p → rows[i]? = some r → p.1 = n + i ∧ p.2 = r.map C.d
  | [], n, rows, h => by simp [rowsOf] at h; subst h; simp
  | (j, cs) :: ps, n, rows, h => by
    simp only [rowsOf] at h
    by_cases hc : j = n ∧ cs.length = k
    · rw [if_pos hc] at h
      cases h1 : C.data cs with
      | none => rw [h1] at h; cases h
      | some r =>
        cases h2 : rowsOf k (n + 1) ps with
        | none => rw [h1, h2] at h; cases h
        | some rs =>
          rw [h1, h2] at h; simp only [Option.some.injEq] at h; subst h
          obtain ⟨a1, a2, a3⟩ := rowsOf_spec h2
          have hd := C.data_spec h1
          refine ⟨by simp [a1], fun r' hr' => ?_, fun i p r' hp hr => ?_⟩
          · rcases List.mem_cons.1 hr' with rfl | hr'
            · rw [← hc.2, hd]; simp
            · exact a2 r' hr'
          · cases i with
            | zero => simp at hp hr; subst hp; subst hr; exact ⟨hc.1, hd⟩
            | succ i =>
              obtain ⟨b1, b2⟩ := a3 i p r' (by simpa using hp) (by simpa using hr)
              exact ⟨by omega, b2⟩
    · rw [if_neg hc] at h; cases h

theorem fill_rows {k : Nat} : ∀ {ps : List (Nat × List C)} {n : Nat} {rows : List (List D)} (cs : List C), rowsOf k n ps = some rows → cs.length = (n + ps.length) * k →
    ∃ cs', fillC (fun i => some (i * k, k)) cs ps = some cs' ∧ (∀ q, q < n * k → cs'[q]? = cs[q]?) ∧ ∀ (i j : Nat) (r : List D) (x : D), rows[i]? = some r → r[j]? = some x → cs'[(n + i) * k + j]? = some (.d x)
  | [], n, rows, cs, h, hl => by simp [rowsOf] at h; subst h; exact ⟨cs, rfl, fun _ _ => rfl, by simp⟩
  | (i0, ys) :: ps, n, rows, cs, h, hl => by
    simp only [rowsOf] at h
    by_cases hc : i0 = n ∧ ys.length = k
    · obtain ⟨rfl, hk⟩ := hc
      rw [if_pos ⟨rfl, hk⟩] at h
      cases h1 : C.data ys with
      | none => rw [h1] at h; cases h
      | some r =>
        cases h2 : rowsOf k (i0 + 1) ps with
        | none => rw [h1, h2] at h; cases h
        | some rs =>
          rw [h1, h2] at h; simp only [Option.some.injEq] at h; subst h
          have hd := C.data_spec h1
          have hmul : (i0 + 1) * k ≤ (i0 + (ps.length + 1)) * k := Nat.mul_le_mul_right k (by omega)
          simp only [List.length_cons] at hl
          rw [Nat.add_mul, Nat.one_mul] at hmul
          have hfit : i0 * k + ys.length ≤ cs.length := by rw [hk, hl]; exact hmul
          obtain ⟨cs', a1, a2, a3⟩ := fill_rows (ps := ps) (n := i0 + 1) (rows := rs) (putAt cs (i0 * k) ys) h2 (by rw [putAt_length hfit, hl]; congr 1; omega)
          have hplace : ∀ i j : Nat, (fun i => some (i * k, k) : Nat → Option (Nat × Nat)) i = some (i * k, k) := fun _ _ => rfl
          refine ⟨cs', by simp only [fillC]; rw [if_pos ⟨hk, hfit⟩]; exact a1, fun q hq => ?_, fun i j r' x hr hx => ?_⟩
          · rw [a2 q (by rw [Nat.add_mul, Nat.one_mul]; omega), putAt_get hfit, if_neg (by omega)]
          · cases i with
            | zero =>
              simp at hr; subst hr
              have hj : j < k := by rw [← hk, hd, List.length_map]; exact (List.getElem?_eq_some_iff.1 hx).1
              rw [Nat.add_zero, a2 _ (by rw [Nat.add_mul, Nat.one_mul]; omega), putAt_get hfit, if_pos (by omega)]
              rw [show i0 * k + j - i0 * k = j by omega, hd]
              simp [hx]
            | succ i =>
              have := a3 i j r' x (by simpa using hr) hx
              rw [show i0 + (i + 1) = i0 + 1 + i by omega]; exact this
    · rw [if_neg hc] at h; cases h

theorem tinf_info {P : Program} {t : TypeId} {k b : Nat} {g : Bool} {z : Option Value} (h : tinf P t = some (k, b, g, z)) : ∃ i, P.info? t = some i ∧ i.size = k ∧ i.bytes = b ∧ i.zero = z := by
  obtain ⟨i, u, h1, _, h3, h4, h5, _⟩ := tinf_spec h
  exact ⟨i, h1, h3, h4, h5⟩

/-- A slice literal. -/
theorem r_buildSlice {t e : TypeId} {k b : Nat} {g : Bool} {z : Value} {len : Nat} {parts : Array (Nat × Operand)} {ps : List (Nat × List C)} {rows : List (List D)} (ht : G.P.underlying t = some (.slice e)) (hti : tinf G.P e = some (k, b, g, some z))
    (h1 : z.cells.toList.all (·.oneCell') = true) (hp : evParts sl parts.toList = some ps) (hone : oneAll (parts.toList.map (·.2)) = true) (hr : rowsOf k 0 ps = some rows) (hl : rows.length = len) (hsm : len * k ≤ 16777216) (hk : k ≠ 0) (hzk : z.cells.size = k) (hn : d < G.n) :
    OpR G ⟨some d, .buildSlice t len parts, ty, pos, af, gd⟩ sl mem ⟨rd sl (parts.toList.map (·.2)), [], [(d, .c (.d (.sl true rows)))], []⟩ where
  rs := rd_ok sl _
  rm := by simp
  wm := by simp
  ok := fun K hK s a w hs htr next Q hnx => by
    obtain ⟨ρ, hs⟩ := hs
    subst hl
    obtain ⟨it, i1, i2, i3, i4⟩ := tinf_info hti
    obtain ⟨q1, q2⟩ := parts_cells hs htr.rs hp hone
    obtain ⟨p1, p2, p3⟩ := rowsOf_spec hr
    have hfr : ∀ g' o', Fs K ρ s.mem g' o' → g' < w.heap.size := fun g' o' hh => by
      rcases hh with hh | hh
      · exact Nat.lt_of_lt_of_le (hs.fF g' o' hh) hs.fr.size
      · exact (hs.wr g' o' hh).2.1
    by_cases h0 : rows.length = 0
    · have hrows : rows = [] := List.eq_nil_of_length_eq_zero h0
      subst hrows
      have hps : (parts.map fun (i, x) => (i, a.eval x)) = #[] := by
        apply Array.eq_empty_of_size_eq_zero
        have := q1.trans p1
        simpa using this
      have hrun : (execOp a.eval ⟨some d, .buildSlice t 0 parts, ty, pos, af, gd⟩).run G.P w = .ok (.value (.slice (some ⟨w.heap.size, 0, none⟩) 0 0)) (w.alloc (.cells #[] e)) := by
        simp [execOp, hps, Instr.buildSlice, run_underlying ht, run_sizeOf hti, Instr.fill, newRow]
        congr 2
        exact Array.eq_empty_of_size_eq_zero (by simp)
      unfold Oper.wp
      simp only [List.length_nil]
      rw [hrun, Oper.upon_value]
      refine hnx _ _ ⟨ρ, (hs.junk _).put (by rw [hK.1]; exact hn) (.c (.d (.sl0 _ _ (by simp))))⟩
    · let arr0 : Array Value := (Array.range (rows.length * k)).map (z.cells[· % z.cells.size]!)
      have hz0 : ∀ i, i < rows.length * k → ∃ v, arr0.getD i undef = v ∧ v.oneCell' = true := fun i hi => by
        have hm : i % k < z.cells.size := by rw [hzk]; exact Nat.mod_lt _ (by omega)
        refine ⟨z.cells[i % k]'hm, by simp [arr0, Array.getD_eq_getD_getElem?, hi, hzk, getElem!_pos z.cells (i % k) hm], ?_⟩
        have := List.all_eq_true.1 h1 (z.cells[i % k]'hm) (by simp)
        exact this
      let cs0 : List C := (List.range (rows.length * k)).map fun i => .d (.v (arr0.getD i undef))
      have hc0 : Cells (Fs K ρ s.mem) ρ w cs0 arr0 := by
        refine ⟨by simp [cs0, arr0], fun i x hx => ?_⟩
        simp only [cs0, List.getElem?_map, Option.map_eq_some_iff] at hx
        obtain ⟨j, hj, rfl⟩ := hx
        obtain ⟨hj1, hj2⟩ := List.getElem?_eq_some_iff.1 hj
        simp at hj2 hj1; subst hj2
        obtain ⟨v, e1, e2⟩ := hz0 i hj1
        rw [e1]; exact .d (.v e2)
      obtain ⟨cs', f1, _, f3⟩ := fill_rows cs0 hr (by simp [cs0, p1])
      obtain ⟨arr', g1, g2⟩ := fill_spec ps _ cs0 cs' arr0 q1 q2 hc0 f1
      have hpos : ¬ rows.length * it.size = 0 := by rw [i2]; exact Nat.mul_ne_zero h0 hk
      have hrun : (execOp a.eval ⟨some d, .buildSlice t rows.length parts, ty, pos, af, gd⟩).run G.P w = .ok (.value (.slice (some ⟨w.heap.size, 0, none⟩) rows.length rows.length)) (w.alloc (.cells arr' e)) := by
        have := run_buildSlice (P := G.P) w t e rows.length (parts.map fun (i, x) => (i, a.eval x)) arr' it z ht i1 i4 (by rw [i2]; omega) hpos (by rw [i2]; exact g1)
        simp only [execOp, Sem.run_bind, this, Result.andThen_ok, Sem.run_pure]
      unfold Oper.wp
      rw [hrun, Oper.upon_value]
      refine hnx _ _ ⟨ρ, (hs.junk _).put (by rw [hK.1]; exact hn) (.c (.d ?_))⟩
      have hst : Stays (Fs K ρ s.mem) w (Fs K ρ s.mem) (w.alloc (.cells arr' e)) := fun g o' u h1 h2 => ⟨h1, by rw [World.cell?_alloc_lt _ _ _ (World.block_lt_of_cell? w _ h2)]; exact h2⟩
      have hcell : ∀ i j, i < rows.length → j < k → ∃ r x, rows[i]? = some r ∧ r[j]? = some x ∧ RepD (Fs K ρ s.mem) w x (arr'.getD (i * k + j) undef) ∧ i * k + j < arr'.size := by
        intro i j hi hj
        have hk' := p2 rows[i] (List.getElem_mem hi)
        have hx : rows[i][j]? = some (rows[i][j]'(by omega)) := List.getElem?_eq_getElem (by omega)
        have := f3 i j rows[i] _ (List.getElem?_eq_getElem hi) hx
        rw [Nat.zero_add] at this
        have hrep := g2.2 _ _ this
        have hlt := (List.getElem?_eq_some_iff.1 this).1
        refine ⟨_, _, List.getElem?_eq_getElem hi, hx, ?_, by rw [g2.1]; exact hlt⟩
        cases hrep with | d hh => exact hh
      refine .sl (k := k) w.heap.size 0 rows.length (fun i j => arr'.getD (i * k + j) undef) (Nat.le_refl _) p2 (fun i j hi hj => ⟨fun hh => absurd (hfr _ _ hh) (by omega), ?_⟩) (fun i j r x hr' hx => ?_)
      · obtain ⟨r, x, _, _, _, hlt⟩ := hcell i j hi hj
        rw [cell_of_row _ _ _ arr' e (0, 0) (alloc_heap_new w _)]
        simp [Array.getD_eq_getD_getElem?, hlt]
      · have hi := (List.getElem?_eq_some_iff.1 hr').1
        have hj : j < k := by rw [← p2 r (List.mem_of_getElem? hr')]; exact (List.getElem?_eq_some_iff.1 hx).1
        obtain ⟨r2, x2, e1, e2, e3, _⟩ := hcell i j hi hj
        rw [hr'] at e1; cases e1
        rw [hx] at e2; cases e2
        exact e3.stays hst

end Go.Am
