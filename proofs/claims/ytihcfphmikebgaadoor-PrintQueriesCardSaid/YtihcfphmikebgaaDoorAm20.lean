/- Arrays that are built and indexed; contracts of the library's functions, as contracts here. -/
import Derived.Test.YtihcfphmikebgaaDoorAm19
import Derived.Laws.Tables
import Derived.Lib.AppendIntMem
namespace Go.Am
open Go.RowKit
set_option linter.unusedVariables false
set_option linter.unusedSimpArgs false
variable {G : Gm} {Q : Exit → St → Prop} {ops : Array Oper} {o : Oper} {l : List Oper} {sl : List (Nat × A)} {mem : List (Nat × Ob)} {defs : List (Nat × List C)}
variable {d : Nat} {ty : TypeId} {pos : String} {af : Array Edge} {gd : Option (Nat × Bool)} {K : Ctx} {ρ ρ' : Ren} {w w' : World} {F : Loc} {s s' : St} {a : Act}

/-- An array's element's size; the array's length and zero value. -/
def arrOf (P : Program) (t : TypeId) : Option (Nat × Nat × Value) :=
  match P.info? t, P.underlying t with
  | some it, some (.array n e) => match it.zero, P.info? e with
    | some z, some ie => some (ie.size, n, z)
    | _, _ => none
  | _, _ => none
theorem arr_built {P : Program} {t : TypeId} {k n : Nat} {z : Value} (h : arrOf P t = some (k, n, z)) (vs : List (Nat × Value)) : P.built t vs = Instr.fill (fun i => some (i * k, k)) z.cells vs := by
  unfold arrOf at h
  unfold Program.built
  cases hi : P.info? t with
  | none => rw [hi] at h; cases h
  | some it =>
    cases hu : P.underlying t with
    | none => rw [hi, hu] at h; cases h
    | some u =>
      rw [hi, hu] at h
      cases u <;> simp only [reduceCtorEq] at h
      rename_i len e
      simp only
      cases hz : it.zero with
      | none => rw [hz] at h; cases h
      | some z' =>
        cases he : P.info? e with
        | none => rw [hz, he] at h; cases h
        | some ie => rw [hz, he] at h; cases h; rfl
/-- An array of parts. -/
theorem r_buildArr {t : TypeId} {parts : Array (Nat × Operand)} {k n : Nat} {z : Value} {ps : List (Nat × List C)} {zs cs : List C} (ht : arrOf G.P t = some (k, n, z)) (h1 : z.cells.toList.all (·.oneCell') = true) (hz : plainCells z = zs)
    (hp : evParts sl parts.toList = some ps) (hone : oneAll (parts.toList.map (·.2)) = true) (hf : fillC (fun i => some (i * k, k)) zs ps = some cs) (hn : d < G.n) :
    OpR G ⟨some d, .build t parts, ty, pos, af, gd⟩ sl mem ⟨rd sl (parts.toList.map (·.2)), [], [(d, .agg cs)], []⟩ :=
  .pure (parts.toList.map (·.2)) rfl hn (by simp) fun K ρ s a w hK hs hrs _ => by
    subst hz
    obtain ⟨q1, q2⟩ := parts_cells hs hrs hp hone
    obtain ⟨arr', e1, e2⟩ := fill_spec (F := Fs K ρ s.mem) (ρ := ρ) (w := w) ps _ (plainCells z) cs z.cells q1 q2 ⟨(plainCells_spec (F := Fs K ρ s.mem) (ρ := ρ) (w := w) h1).1, (plainCells_spec h1).2⟩ hf
    have hb : G.P.built t (parts.map fun (i, x) => (i, a.eval x)).toList = some arr' := by
      rw [arr_built ht, ← e1]
    exact ⟨.agg arr', by simp only [execOp, Sem.run_bind, run_build w t _ _ hb, Result.andThen_ok, Sem.run_pure], .agg e2.1.symm e2.2⟩
/-- The place of an array's element. -/
theorem r_indexAddrArr {t : TypeId} {x i : Operand} {m off k n : Nat} {z : Value} {kk : IntKind} {j : Int} (ht : arrOf G.P t = some (k, n, z))
    (hx : ev sl x = some (.c (.ref m off))) (hi : ev sl i = some (A.val (.int kk j))) (h0 : 0 ≤ j) (h1 : j < n) (hn : d < G.n) :
    OpR G ⟨some d, .indexAddr t x i, ty, pos, af, gd⟩ sl mem ⟨rd sl [x, i], [], [(d, .c (.ref m (off + j.toNat * k)))], []⟩ :=
  .pure [x, i] rfl hn (by simp) fun K ρ s a w hK hs hrs hrm => by
    have hr0 := rep_of hs hrs (by simp) (fun v e => by subst e; simp [ev] at hx) hx
    generalize hv : a.eval x = v at hr0
    cases hr0 with | c hr0 => cases hr0 with | ref hδ =>
      have hu : ∃ e, G.P.underlying t = some (.array n e) ∧ ∃ ie, G.P.info? e = some ie ∧ ie.size = k := by
        unfold arrOf at ht
        split at ht
        · rename_i it n' e' hi hu
          split at ht
          · rename_i z' ie' hz he
            cases ht
            exact ⟨_, hu, _, he, rfl⟩
          · cases ht
        · cases ht
      obtain ⟨e, hu, ie, he, hk⟩ := hu
      have hs : (sizeOf e).run G.P w = .ok k w := by
        simp [sizeOf, typeInfo, he, hk]
      refine ⟨_, ?_, .c (.ref hδ)⟩
      simp [execOp, hv, val_of ‹SimR K ρ s a w› hrs (by simp) hi, Instr.indexAt, asIntOf, run_underlying hu, h0, h1, hs, add_none, Instr.sureAddr]

/-- Blocks below the heap's end lie as they lay: memory is what it was. -/
theorem MS.below {mem : List (Nat × Ob)} (h : MS F ρ mem w) (hb : Below w.heap.size w w') : MS F ρ mem w' := by
  have hst : Stays (fun g o => F g o ∨ Wr ρ mem g o) w (fun g o => F g o ∨ Wr ρ mem g o) w' := fun g o u x y => ⟨x, by
    have hg : g < w.heap.size := by
      simp only [World.cell?] at y
      by_cases e : g < w.heap.size
      · exact e
      · rw [Array.getElem?_eq_none (by omega)] at y; cases y
    simp only [World.cell?] at y ⊢
    rw [hb.block g hg]; exact y⟩
  refine ⟨fun m ob hm => (h.sat m ob hm).stays hst (Ren.le_refl _) (.of_eq hb.block) (fun δ hδ hw => hb.block _ ((h.sat m ob hm).blk_lt hw hδ)), h.dom, h.dist, fun g o hw => ⟨(h.wr g o hw).1, Nat.lt_of_lt_of_le (h.wr g o hw).2 hb.size⟩, fun g o hf => Nat.lt_of_lt_of_le (h.fF g o hf) hb.size⟩
/-- A contract of the library's, as a contract here: what lies below the heap's end stays; the answer is data that needs no memory. -/
theorem spec_of_below {P : Program} {f : FuncId} {args : List A} {mem : List (Nat × Ob)} {res : A}
    (h : ∀ (F : Loc) (ρ : Ren) (w : World) (vs : Array Value), MS F ρ mem w → args.length = vs.size → (∀ (i : Nat) (x : A), args[i]? = some x → RepA (fun g o => F g o ∨ Wr ρ mem g o) ρ w x (vs.getD i undef)) →
      Calls P f vs w fun e w' => ∃ v, e = .returned v ∧ RepA (fun g o => F g o ∨ Wr ρ mem g o) ρ w' res v ∧ Below w.heap.size w w') : Spec P f args mem res mem := fun F ρ w vs hms hlen hargs =>
  Calls.mono (h F ρ w vs hms hlen hargs) fun e w' ⟨v, h1, h2, h3⟩ => ⟨v, ρ, h1, Ren.le_refl _, hms.below h3, h2, fun g o hw => .inl hw, .of_below h3 _⟩
/-- The whole of a variable that nobody writes. -/
theorem MS.tab {mem : List (Nat × Ob)} (h : MS F ρ mem w) {m g : Nat} {vs : List Value} (hm : mem.lookup m = some (.tab g vs)) {P : Program} {name : String} (hg : P.globalNamed name = some g) : w.var? P name = some vs.toArray := by
  have hs := h.sat m _ hm
  cases hs with
  | tab x1 x2 x3 x4 =>
    rename_i δ arr t fr
    unfold World.var?
    rw [hg]
    simp only [Option.bind_some, x2, Option.some.injEq]
    apply Array.ext_getElem?
    intro i
    by_cases hi : i < vs.length
    · have hv : vs[i]? = some vs[i] := List.getElem?_eq_getElem hi
      have := (x4 i _ hv).2
      simp only [World.cell?, x2] at this
      simp only [List.getElem?_toArray, hv]
      simpa using this
    · rw [Array.getElem?_eq_none (by omega), Array.getElem?_eq_none (by simp; omega)]
theorem fillC_length {place : Nat → Option (Nat × Nat)} : ∀ {ps : List (Nat × List C)} {cs cs' : List C}, fillC place cs ps = some cs' → cs'.length = cs.length
  | [], cs, cs', h => by simp only [fillC, Option.some.injEq] at h; rw [h]
  | (i, ys) :: rest, cs, cs', h => by
    rw [fillC] at h
    split at h
    · cases h
    · split at h
      · rename_i hh
        rw [fillC_length h, putAt_length hh.2]
      · cases h
/-- A slice literal that one may append to. -/
theorem r_buildOwnN (m : Nat) {t e : TypeId} {k b : Nat} {g : Bool} {z : Value} {len : Nat} {parts : Array (Nat × Operand)} {ps : List (Nat × List C)} {rows : List (List D)} (ht : G.P.underlying t = some (.slice e)) (hti : tinf G.P e = some (k, b, g, some z))
    (h1 : z.cells.toList.all (·.oneCell') = true) (hp : evParts sl parts.toList = some ps) (hone : oneAll (parts.toList.map (·.2)) = true) (hr : rowsOf k 0 ps = some rows) (hl : rows.length = len) (hsm0 : len * k ≤ 16777216) (hk : k ≠ 0) (hzk : z.cells.size = k) (h0 : rows.length ≠ 0) (hm : lk mem m = none) (hn : d < G.n) :
    OpR G ⟨some d, .buildSlice t len parts, ty, pos, af, gd⟩ sl mem ⟨rd sl (parts.toList.map (·.2)), [], [(d, .c (.own m rows))], [(m, .perm k e)]⟩ where
  rs := rd_ok sl _
  rm := by simp
  wm := fun p hp => by simp at hp; subst hp; right; rw [← lk_eq]; exact hm
  ok := fun K hK s a w hs htr next Q hnx => by
    obtain ⟨ρ, hs⟩ := hs
    subst hl
    obtain ⟨it, i1, i2, i3, i4⟩ := tinf_info hti
    obtain ⟨q1, q2⟩ := parts_cells hs htr.rs hp hone
    obtain ⟨p1, p2, p3⟩ := rowsOf_spec hr
    have hfr : ∀ g' o', Fs K ρ s.mem g' o' → g' < w.heap.size := fun g' o' hh => by
      rcases hh with hh | hh
      · exact Nat.lt_of_lt_of_le (hs.fF g' o' hh) hs.fr.size
      · exact (hs.wr g' o' hh).2.1
    let arr0 : Array Value := (Array.range (rows.length * k)).map (z.cells[· % z.cells.size]!)
    have hz0 : ∀ i, i < rows.length * k → ∃ v, arr0.getD i undef = v ∧ v.oneCell' = true := fun i hi => by
      have hm : i % k < z.cells.size := by rw [hzk]; exact Nat.mod_lt _ (by omega)
      refine ⟨z.cells[i % k]'hm, by simp [arr0, Array.getD_eq_getD_getElem?, hi, hzk, getElem!_pos z.cells (i % k) hm], ?_⟩
      have := List.all_eq_true.1 h1 (z.cells[i % k]'hm) (by simp)
      exact this
    let cs0 : List C := (List.range (rows.length * k)).map fun i => .d (.v (arr0.getD i undef))
    have hc0 : Cells (Fs K ρ s.mem) ρ w cs0 arr0 := by
      refine ⟨by simp [cs0, arr0], fun i x hx => ?_⟩
      simp only [cs0, List.getElem?_map, Option.map_eq_some_iff] at hx
      obtain ⟨j, hj, rfl⟩ := hx
      obtain ⟨hj1, hj2⟩ := List.getElem?_eq_some_iff.1 hj
      simp at hj2 hj1; subst hj2
      obtain ⟨v, e1, e2⟩ := hz0 i hj1
      rw [e1]; exact .d (.v e2)
    obtain ⟨cs', f1, _, f3⟩ := fill_rows cs0 hr (by simp [cs0, p1])
    have f4 : cs'.length = cs0.length := fillC_length f1
    obtain ⟨arr', g1, g2⟩ := fill_spec ps _ cs0 cs' arr0 q1 q2 hc0 f1
    have hpos : ¬ rows.length * it.size = 0 := by rw [i2]; exact Nat.mul_ne_zero h0 hk
    have hrun : (execOp a.eval ⟨some d, .buildSlice t rows.length parts, ty, pos, af, gd⟩).run G.P w = .ok (.value (.slice (some ⟨w.heap.size, 0, none⟩) rows.length rows.length)) (w.alloc (.cells arr' e)) := by
      have := run_buildSlice (P := G.P) w t e rows.length (parts.map fun (i, x) => (i, a.eval x)) arr' it z ht i1 i4 (by rw [i2]; omega) hpos (by rw [i2]; exact g1)
      simp only [execOp, Sem.run_bind, this, Result.andThen_ok, Sem.run_pure]
    unfold Oper.wp
    rw [hrun, Oper.upon_value]
    have hsm : s.mem.lookup m = none := by
      rcases htr.wm (m, .perm k e) (by simp) with hh | hh
      · simp at hh
      · exact hh
    have hk16 : rows.length ≤ 16777216 := Nat.le_trans (Nat.le_mul_of_pos_right _ (Nat.pos_of_ne_zero hk)) hsm0
    have hsz' : arr'.size = rows.length * k := by
      have e1 := g2.1
      have e2 := f4
      rw [e1, e2]; simp [cs0]
    have hf := hs.fresh (m := m) (ob := .perm k e) (δ := ⟨w.heap.size, rows.length, rows.length⟩) (arr := arr') (t := e) hsm (fun g o h => h.1) (fun F' _ _ => .perm (Ren.set_same _ _ _) (alloc_heap_new w _) (Nat.le_refl _) (by simp only [maxLen]; omega) (by simpa using hsz'))
    refine hnx _ _ ⟨_, hf.put (by rw [hK.1]; exact hn) (.c (.own (Ren.set_same _ _ _) rfl ?_))⟩
    have hFn : ∀ g o', Fs K (ρ.set m ⟨w.heap.size, rows.length, rows.length⟩) ((m, .perm k e) :: s.mem) g o' → Fs K ρ s.mem g o' := fun g o' hh => by
      rcases hh with hh | hh
      · exact .inl hh
      · rcases (Wr.cons_new hsm).1 hh with y | y
        · simp only [Ob.wr] at y; omega
        · exact .inr y
    have hst : Stays (Fs K ρ s.mem) w (Fs K (ρ.set m ⟨w.heap.size, rows.length, rows.length⟩) ((m, .perm k e) :: s.mem)) (w.alloc (.cells arr' e)) := fun g o' u h1 h2 => ⟨fun hh => h1 (hFn _ _ hh), by rw [World.cell?_alloc_lt _ _ _ (World.block_lt_of_cell? w _ h2)]; exact h2⟩
    have hcell : ∀ i j, i < rows.length → j < k → ∃ r x, rows[i]? = some r ∧ r[j]? = some x ∧ RepD (Fs K ρ s.mem) w x (arr'.getD (i * k + j) undef) ∧ i * k + j < arr'.size := by
      intro i j hi hj
      have hk' := p2 rows[i] (List.getElem_mem hi)
      have hx : rows[i][j]? = some (rows[i][j]'(by omega)) := List.getElem?_eq_getElem (by omega)
      have := f3 i j rows[i] _ (List.getElem?_eq_getElem hi) hx
      rw [Nat.zero_add] at this
      have hrep := g2.2 _ _ this
      have hlt := (List.getElem?_eq_some_iff.1 this).1
      refine ⟨_, _, List.getElem?_eq_getElem hi, hx, ?_, by rw [g2.1]; exact hlt⟩
      cases hrep with | d hh => exact hh
    refine .sl (k := k) w.heap.size 0 rows.length (fun i j => arr'.getD (i * k + j) undef) (Nat.le_refl _) p2 (fun i j hi hj => ⟨fun hh => absurd (hfr _ _ (hFn _ _ hh)) (by omega), ?_⟩) (fun i j r x hr' hx => ?_)
    · obtain ⟨r, x, _, _, _, hlt⟩ := hcell i j hi hj
      rw [cell_of_row _ _ _ arr' e (0, 0) (alloc_heap_new w _)]
      simp [Array.getD_eq_getD_getElem?, hlt]
    · have hi := (List.getElem?_eq_some_iff.1 hr').1
      have hj : j < k := by rw [← p2 r (List.mem_of_getElem? hr')]; exact (List.getElem?_eq_some_iff.1 hx).1
      obtain ⟨r2, x2, e1, e2, e3, _⟩ := hcell i j hi hj
      rw [hr'] at e1; cases e1
      rw [hx] at e2; cases e2
      exact e3.stays hst

end Go.Am
