/- append, as the machine runs it. -/
import Derived.Test.YtihcfphmikebgaaDoorAm4
namespace Go.Am
open Go.RowKit
set_option linter.unusedVariables false

variable {K : Ctx} {ρ ρ' : Ren} {s : St} {a : Act} {w w' : World} {F : Loc} {P : Program}

theorem lookup_two_none {m m' : Nat} {ob : Ob} {mem : List (Nat × Ob)} (h : mem.lookup m' = none) (hne : m' ≠ m) : List.lookup m' ((m, ob) :: mem) = none := by
  rw [lookup_cons, if_neg hne]; exact h

/-- A list that lies at the head of a block. -/
theorem arr_head {arr : Array Value} {pre news rest : List Value} (h : arr = (pre ++ news ++ rest).toArray) : (∀ j, j < pre.length → arr[j]? = pre[j]?) ∧ (∀ j, j < news.length → arr[pre.length + j]? = news[j]?) := by
  subst h
  refine ⟨fun j hj => ?_, fun j hj => ?_⟩
  · simp [List.getElem?_append_left, hj]
  · simp only [List.getElem?_toArray, List.append_assoc]
    rw [List.getElem?_append_right (by omega), List.getElem?_append_left (by omega)]
    congr 1; omega

theorem SimR.grow (h : SimR K ρ s a w) {m m' k bytes : Nat} {t ty e : TypeId} {i : TypeInfo} {z : Value} {rows rows2 : List (List D)} {nn2 : Bool} {v v2 : Value}
    (ht : P.underlying t = some (.slice e)) (hi : P.info? e = some i) (hz : i.zero = some z) (hsize : i.size = k) (hby : i.bytes = bytes) (hzs : z.cells.size = k)
    (hv : RepC (Fs K ρ s.mem) ρ w (.own m rows) v) (hm : s.mem.lookup m = some (.perm k e)) (hm' : s.mem.lookup m' = none)
    (hv2 : RepD (Fs K ρ s.mem) w (.sl nn2 rows2) v2) (hk1 : ∀ r ∈ rows, r.length = k) (hk2 : ∀ r ∈ rows2, r.length = k)
    (h63 : rows.length + rows2.length ≤ maxLen) (hbytes : (rows.length + rows2.length) * bytes ≤ 140737488355328) :
    ∃ v1 w1 ρ1, (Builtin.append_ #[t, t] ty #[v, v2]).run P w = .ok v1 w1 ∧ ρ.le ρ1 ∧ (∀ i, i ≠ m' → ρ1 i = ρ i) ∧
      SimR K ρ1 { s with mem := (m', .perm k e) :: (m, .gone) :: s.mem } a w1 ∧
      RepC (Fs K ρ1 ((m', .perm k e) :: (m, .gone) :: s.mem)) ρ1 w1 (.own m' (rows ++ rows2)) v1 ∧ w1.heap.size ≤ w1.heap.size := by
  subst hsize; subst hby
  have hmne : m' ≠ m := fun x => by rw [x, hm] at hm'; cases hm'
  have hmne' : m ≠ m' := Ne.symm hmne
  obtain ⟨A2, c2, f2, rfl, hsrc, hone, hr2⟩ := hv2.flat hk2
  have hsmall : rows.length + rows2.length ≤ 9223372036854775807 := by simp only [maxLen] at h63; omega
  have hlen2 : (flatOf f2 i.size rows2.length).length = rows2.length * i.size := flatOf_length _ _ _
  -- a new block takes the whole
  have newblock : ∀ (f1 : Nat → Nat → Value), (∀ (i' j : Nat) (r : List D) (x : D), rows[i']? = some r → r[j]? = some x → RepD (Fs K ρ s.mem) w x (f1 i' j)) →
      ∀ cap, rows.length + rows2.length ≤ cap → cap ≤ maxLen → ∀ (rest : List Value), ((flatOf f1 i.size rows.length).length + (flatOf f2 i.size rows2.length).length + rest.length = cap * i.size) → ∀ w2 : World, w2.heap = w.heap → w2.os = w.os → w2.tape = w.tape → w2.output = w.output →
      ∃ ρ1, ρ.le ρ1 ∧ (∀ i, i ≠ m' → ρ1 i = ρ i) ∧
        SimR K ρ1 { s with mem := (m', .perm i.size e) :: (m, .gone) :: s.mem } a (w2.alloc (.cells (flatOf f1 i.size rows.length ++ flatOf f2 i.size rows2.length ++ rest).toArray e)) ∧
        RepC (Fs K ρ1 ((m', .perm i.size e) :: (m, .gone) :: s.mem)) ρ1 (w2.alloc (.cells (flatOf f1 i.size rows.length ++ flatOf f2 i.size rows2.length ++ rest).toArray e)) (.own m' (rows ++ rows2)) (.slice (some ⟨w2.heap.size, 0, none⟩) (rows.length + rows2.length) cap) := by
    intro f1 hr1 cap hc1 hc2 rest hrest w2 e1 e2 e3 e4
    have h2 := (h.heap e1 e2 e3 e4).retire m
    have hsz : w2.heap.size = w.heap.size := by rw [e1]
    let δ : Desc := ⟨w2.heap.size, rows.length + rows2.length, cap⟩
    have hst0 : Stays (Fs K ρ s.mem) w (Fs K ρ ((m, .gone) :: s.mem)) w2 := fun g o u x y => by
      refine ⟨fun z => x (z.imp id ?_), by rw [show w2.cell? ⟨g, o, none⟩ = w.cell? ⟨g, o, none⟩ by simp [World.cell?, e1]]; exact y⟩
      rintro ⟨q, ob, δ1, q1, q2, q3⟩
      rw [lookup_cons] at q1
      by_cases cq : q = m
      · rw [if_pos cq] at q1; cases q1; exact q3.elim
      · rw [if_neg cq] at q1; exact ⟨q, ob, δ1, q1, q2, q3⟩
    have hsim := h2.fresh (m := m') (ob := .perm i.size e) (δ := δ) (arr := (flatOf f1 i.size rows.length ++ flatOf f2 i.size rows2.length ++ rest).toArray) (t := e) (lookup_two_none hm' hmne) (fun g o x => x.1)
      (fun F' _ _ => .perm (Ren.set_same _ _ _) (alloc_heap_new w2 _) hc1 hc2 (by simp only [List.size_toArray, List.length_append]; exact hrest))
    refine ⟨ρ.set m' δ, Ren.le_set (h.dom m' hm') δ, fun i' hi' => Ren.set_other ρ δ hi', hsim, ?_⟩
    -- what lies there
    obtain ⟨ha1, ha2⟩ := arr_head (arr := (flatOf f1 i.size rows.length ++ flatOf f2 i.size rows2.length ++ rest).toArray) rfl
    have hcellnew : ∀ j, (w2.alloc (.cells (flatOf f1 i.size rows.length ++ flatOf f2 i.size rows2.length ++ rest).toArray e)).cell? ⟨w2.heap.size, j, none⟩ = (flatOf f1 i.size rows.length ++ flatOf f2 i.size rows2.length ++ rest).toArray[j]? := fun j => World.cell?_alloc_new w2 _ e j
    have hFnew : ∀ o, o < (rows.length + rows2.length) * i.size → ¬ Fs K (ρ.set m' δ) ((m', .perm i.size e) :: (m, .gone) :: s.mem) w2.heap.size o := by
      rintro o ho (x | x)
      · have := Nat.lt_of_lt_of_le (h.fF _ _ x) h.fr.size; omega
      · rcases (Wr.cons_new (lookup_two_none hm' hmne)).1 x with y | y
        · have := y.2.1; simp only [δ] at this; omega
        · have := Wr.lt h2 y; omega
    have hst1 : Stays (Fs K ρ s.mem) w (Fs K (ρ.set m' δ) ((m', .perm i.size e) :: (m, .gone) :: s.mem)) (w2.alloc (.cells (flatOf f1 i.size rows.length ++ flatOf f2 i.size rows2.length ++ rest).toArray e)) := fun g o u x y => by
      obtain ⟨x', y'⟩ := hst0 g o u x y
      have hg := World.block_lt_of_cell? w2 _ y'
      refine ⟨?_, by rw [World.cell?_alloc_lt _ _ _ hg]; exact y'⟩
      rintro (z | z)
      · exact x' (.inl z)
      · rcases (Wr.cons_new (lookup_two_none hm' hmne)).1 z with q | q
        · have := q.1; simp only [δ] at this; simp only at hg; omega
        · exact x' (.inr q)
    refine .own (δ := δ) (Ren.set_same _ _ _) (by simp [δ]) ?_
    refine RepD.joined (k := i.size) (f := f1) (f2 := f2) hk1 hk2 hc1 (fun i' j hi' hj => ⟨hFnew _ ?_, ?_⟩) (fun i' j hi' hj => ⟨hFnew _ ?_, ?_⟩) (fun i' j r x q1 q2 => (hr1 i' j r x q1 q2).stays hst1) (fun i' j r x q1 q2 => (hr2 i' j r x q1 q2).stays hst1)
    · have : (i' + 1) * i.size ≤ (rows.length + rows2.length) * i.size := Nat.mul_le_mul_right _ (by omega)
      rw [Nat.add_mul] at this; omega
    · have hq : i' * i.size + j < rows.length * i.size := by
        have : (i' + 1) * i.size ≤ rows.length * i.size := Nat.mul_le_mul_right _ hi'
        rw [Nat.add_mul] at this; omega
      rw [hcellnew, ha1 _ (by rw [flatOf_length]; exact hq)]
      exact flatOf_get _ _ _ hi' hj
    · have : (rows.length + i' + 1) * i.size ≤ (rows.length + rows2.length) * i.size := Nat.mul_le_mul_right _ (by omega)
      rw [Nat.add_mul _ 1] at this; omega
    · have hq : i' * i.size + j < rows2.length * i.size := by
        have : (i' + 1) * i.size ≤ rows2.length * i.size := Nat.mul_le_mul_right _ hi'
        rw [Nat.add_mul] at this; omega
      rw [hcellnew, Nat.add_mul, Nat.add_assoc, show rows.length * i.size = (flatOf f1 i.size rows.length).length from (flatOf_length _ _ _).symm, ha2 _ (by rw [flatOf_length]; exact hq)]
      exact flatOf_get _ _ _ hi' hj
  -- the same room under a new name
  have same : ∀ δ, ρ m = some δ → δ.len ≤ δ.cap → SimR K (ρ.set m' δ) { s with mem := (m', .perm i.size e) :: (m, .gone) :: s.mem } a w ∧ Stays (Fs K ρ s.mem) w (Fs K (ρ.set m' δ) ((m', .perm i.size e) :: (m, .gone) :: s.mem)) w := by
    intro δ hδ hlc
    refine ⟨h.regrow hm hm' hδ rfl rfl (Nat.le_refl _) hlc (.inl rfl), fun g o u x y => ⟨fun z => x (z.imp id ?_), y⟩⟩
    rintro ⟨q, ob, δ1, q1, q2, q3⟩
    rw [lookup_cons] at q1
    by_cases c1 : q = m'
    · rw [if_pos c1] at q1; cases q1
      rw [c1, Ren.set_same] at q2; cases q2
      exact ⟨m, _, _, hm, hδ, q3⟩
    · rw [if_neg c1, lookup_cons] at q1
      rw [Ren.set_other ρ δ c1] at q2
      by_cases c2 : q = m
      · rw [if_pos c2] at q1; cases q1; exact q3.elim
      · rw [if_neg c2] at q1; exact ⟨q, ob, δ1, q1, q2, q3⟩
  cases hv with
  | ownNil hδ hcap =>
    rename_i δ
    cases rows2 with
    | nil =>
      let δ0 : Desc := ⟨δ.blk, 0, δ.cap⟩
      have hδ0 : δ.cap = 0 := hcap
      refine ⟨.slice none 0 0, w, ρ.set m' ⟨δ.blk, δ.len, 0⟩, ?_, Ren.le_set (h.dom m' hm') _, fun i' hi' => Ren.set_other ρ _ hi', ?_, ?_, Nat.le_refl _⟩
      · cases A2 <;> simp [Builtin.append_, run_underlying ht, sizeOf, typeInfo, hi, Builtin.lenOf, Builtin.firstCells, loadCells, loadCellsFrom]
      · by_cases hl : δ.len ≤ δ.cap
        · have := (same δ hδ hl).1
          have e1 : (⟨δ.blk, δ.len, 0⟩ : Desc) = δ := by rw [← hδ0]
          rw [e1]; exact this
        · -- an odd description: nothing is written by it
          have hempty : ∀ g o, ¬ (Ob.perm i.size e).wr δ g o := fun g o x => by have := x.2.2; rw [hδ0] at this; omega
          have hempty' : ∀ g o, ¬ (Ob.perm i.size e).wr (⟨δ.blk, δ.len, 0⟩ : Desc) g o := fun g o x => by have := x.2.2; simp at this
          have hle := Ren.le_set (h.dom m' hm') (⟨δ.blk, δ.len, 0⟩ : Desc)
          have hWr : ∀ g o, Wr (ρ.set m' ⟨δ.blk, δ.len, 0⟩) ((m', .perm i.size e) :: (m, .gone) :: s.mem) g o → Wr ρ s.mem g o := by
            rintro g o ⟨q, ob, δ1, q1, q2, q3⟩
            rw [lookup_cons] at q1
            by_cases c1 : q = m'
            · rw [if_pos c1] at q1; cases q1
              rw [c1, Ren.set_same] at q2; cases q2
              exact absurd q3 (hempty' _ _)
            · rw [if_neg c1, lookup_cons] at q1
              rw [Ren.set_other ρ _ c1] at q2
              by_cases c2 : q = m
              · rw [if_pos c2] at q1; cases q1; exact q3.elim
              · rw [if_neg c2] at q1; exact ⟨q, ob, δ1, q1, q2, q3⟩
          have hst : Stays (Fs K ρ s.mem) w (Fs K (ρ.set m' ⟨δ.blk, δ.len, 0⟩) ((m', .perm i.size e) :: (m, .gone) :: s.mem)) w := fun g o u x y => ⟨fun z => x (z.imp id (hWr g o)), y⟩
          refine h.move hle hst (fun q ob hq => ?_) (fun q hq => ?_) (fun q q' ob1 ob2 δ1 δ2 g o h1 h2 r1 r2 n1 n2 => ?_) (fun g o hw' => h.wr g o (hWr g o hw')) h.fr
          · rw [lookup_cons] at hq
            by_cases c1 : q = m'
            · rw [if_pos c1] at hq; cases hq
              subst c1
              exact .permNil (Ren.set_same _ _ _) rfl
            · rw [if_neg c1, lookup_cons] at hq
              by_cases c2 : q = m
              · rw [if_pos c2] at hq; cases hq; exact .gone
              · rw [if_neg c2] at hq; exact (h.mem q ob hq).stays hst hle (.of_eq fun _ _ => rfl) (fun _ _ _ => rfl)
          · rw [lookup_cons] at hq
            by_cases c1 : q = m'
            · simp [c1] at hq
            · rw [if_neg c1, lookup_cons] at hq
              by_cases c2 : q = m
              · simp [c2] at hq
              · rw [if_neg c2] at hq; rw [Ren.set_other ρ _ c1]; exact h.dom q hq
          · have key : ∀ (q : Nat) (ob : Ob) (δ1 : Desc), List.lookup q ((m', Ob.perm i.size e) :: (m, Ob.gone) :: s.mem) = some ob → (ρ.set m' ⟨δ.blk, δ.len, 0⟩) q = some δ1 → ob.wr δ1 g o → s.mem.lookup q = some ob ∧ ρ q = some δ1 := by
              intro q ob δ1 x1 x2 x3
              rw [lookup_cons] at x1
              by_cases c1 : q = m'
              · rw [if_pos c1] at x1; cases x1
                rw [c1, Ren.set_same] at x2; cases x2
                exact absurd x3 (hempty' _ _)
              · rw [if_neg c1, lookup_cons] at x1
                rw [Ren.set_other ρ _ c1] at x2
                by_cases c2 : q = m
                · rw [if_pos c2] at x1; cases x1; exact x3.elim
                · rw [if_neg c2] at x1; exact ⟨x1, x2⟩
            exact h.dist q q' ob1 ob2 δ1 δ2 g o (key q ob1 δ1 h1 r1 n1).1 (key q' ob2 δ2 h2 r2 n2).1 (key q ob1 δ1 h1 r1 n1).2 (key q' ob2 δ2 h2 r2 n2).2 n1 n2
      · exact .ownNil (Ren.set_same _ _ _) rfl
    | cons r rows2 =>
      obtain ⟨g, off, rfl, hc⟩ := hsrc (by simp)
      have hpos : 0 < (r :: rows2).length := by simp
      have hrun := run_append_nil (P := P) w t ty e i z ht hi hz ⟨g, off, none⟩ (r :: rows2).length c2 (flatOf f2 i.size (r :: rows2).length) (by rw [flatOf_length]) hc hpos
        (by simp at hsmall ⊢; omega) (by simp at hbytes ⊢; omega)
      have hge := grownCap_ge w (r :: rows2).length 0 e
      have hcm := grownCap_le_maxLen w (r :: rows2).length 0 e (by simpa using h63)
      obtain ⟨ρ1, q1, q2, q3, q4⟩ := newblock (fun _ _ => undef) (by simp) (grownCap w (r :: rows2).length 0 e) (by simpa using hge) hcm (Builtin.zeroCells z.cells (grownCap w (r :: rows2).length 0 e - (r :: rows2).length)).toList
        (by
          have e0 : (Builtin.zeroCells z.cells (grownCap w (r :: rows2).length 0 e - (r :: rows2).length)).toList.length = (grownCap w (r :: rows2).length 0 e - (r :: rows2).length) * i.size := by
            rw [Array.length_toList, size_zeroCells, hzs]
          rw [e0, flatOf_length, flatOf_length]
          simp only [List.length_nil, Nat.zero_mul, Nat.zero_add]
          rw [← Nat.add_mul]; congr 1; omega) w.drew rfl rfl rfl rfl
      have earr : ((flatOf f2 i.size (r :: rows2).length).toArray ++ Builtin.zeroCells z.cells (grownCap w (r :: rows2).length 0 e - (r :: rows2).length)) =
          (flatOf (fun _ _ => undef) i.size ([] : List (List D)).length ++ flatOf f2 i.size (r :: rows2).length ++ (Builtin.zeroCells z.cells (grownCap w (r :: rows2).length 0 e - (r :: rows2).length)).toList).toArray := by
        apply Array.toList_inj.1
        simp [flatOf]
      rw [earr] at hrun
      have el : ([] : List (List D)).length + (r :: rows2).length = (r :: rows2).length := by simp
      rw [el] at q4
      exact ⟨_, _, ρ1, hrun, q1, q2, q3, q4, Nat.le_refl _⟩
  | own hδ hl hr =>
    rename_i δ
    obtain ⟨A1, cc, f1, hvv, hs1, hone1, hr1⟩ := hr.flat hk1
    obtain ⟨_, _, hvv2, _, hop⟩ := hr.opened hk1
    have hsat := h.mem m _ hm
    by_cases h0 : rows2 = []
    · subst h0
      have hlc : δ.len ≤ δ.cap ∨ rows = [] := by
        rcases hop with e0 | ⟨g, off, f, x1, x2, _⟩
        · exact .inr e0
        · simp only [Value.slice.injEq] at hvv2
          exact .inl (by omega)
      have hlc' : δ.len ≤ δ.cap := by
        rcases hlc with x | x
        · exact x
        · subst x; simp at hl; omega
      refine ⟨.slice (some ⟨δ.blk, 0, none⟩) δ.len δ.cap, w, ρ.set m' δ, ?_, Ren.le_set (h.dom m' hm') _, fun i' hi' => Ren.set_other ρ _ hi', (same δ hδ hlc').1, ?_, Nat.le_refl _⟩
      · cases A2 <;> simp [Builtin.append_, run_underlying ht, sizeOf, typeInfo, hi, Builtin.lenOf, Builtin.firstCells, loadCells, loadCellsFrom, storeCells, hlc']
      · rw [List.append_nil]
        exact .own (Ren.set_same _ _ _) hl (hr.stays (same δ hδ hlc').2)
    · obtain ⟨g, off, rfl, hc⟩ := hsrc h0
      have hpos : 0 < rows2.length := List.length_pos_iff.2 h0
      by_cases hroom : δ.len + rows2.length ≤ δ.cap
      · -- in place
        cases hsat with
        | permNil x1 x2 => rw [hδ] at x1; cases x1; omega
        | perm x1 hb x3 x4 x5 =>
          rename_i δ'' arr
          rw [hδ] at x1; cases x1
          have hfit : δ.len * i.size + (flatOf f2 i.size rows2.length).length ≤ arr.size := by
            rw [flatOf_length, x5, ← Nat.add_mul]; exact Nat.mul_le_mul_right _ hroom
          have hrun := run_append_room (P := P) w t ty e i ht hi δ.blk δ.len δ.cap arr hb ⟨g, off, none⟩ rows2.length c2 (flatOf f2 i.size rows2.length) (by rw [flatOf_length]) hc hone hroom hfit
          generalize harr : (arr.toList.take (δ.len * i.size) ++ flatOf f2 i.size rows2.length ++ arr.toList.drop (δ.len * i.size + (flatOf f2 i.size rows2.length).length)).toArray = arr' at hrun
          have hpre : (arr.toList.take (δ.len * i.size)).length = δ.len * i.size := by rw [List.length_take, Array.length_toList]; omega
          have hsz : arr'.size = arr.size := by
            rw [← harr]; simp only [List.size_toArray, List.length_append, hpre, List.length_drop, Array.length_toList]; omega
          obtain ⟨ha1, ha2⟩ := arr_head harr.symm
          rw [hpre] at ha1 ha2
          have hkeep : ∀ j, (j < δ.len * i.size ∨ δ.cap * i.size ≤ j) → arr'[j]? = arr[j]? := by
            rintro j (hj | hj)
            · rw [ha1 j hj, List.getElem?_take_of_lt hj, Array.getElem?_toList]
            · rw [Array.getElem?_eq_none (by omega), Array.getElem?_eq_none (by omega)]
          let δ1 : Desc := ⟨δ.blk, δ.len + rows2.length, δ.cap⟩
          have hsim := h.regrow (δ' := δ1) hm hm' hδ rfl rfl (by simp [δ1]) hroom (.inr ⟨arr, arr', hb, rfl, hsz, hkeep⟩)
          refine ⟨_, _, ρ.set m' δ1, hrun, Ren.le_set (h.dom m' hm') _, fun i' hi' => Ren.set_other ρ _ hi', hsim, ?_, Nat.le_refl _⟩
          -- what lies there
          have hWr : ∀ g o, Wr (ρ.set m' δ1) ((m', .perm i.size e) :: (m, .gone) :: s.mem) g o → Wr ρ s.mem g o ∧ (g = δ.blk → δ1.len * i.size ≤ o) := by
            rintro g o ⟨q, ob, δ2, q1, q2, q3⟩
            rw [lookup_cons] at q1
            by_cases c1 : q = m'
            · rw [if_pos c1] at q1; cases q1
              rw [c1, Ren.set_same] at q2; cases q2
              obtain ⟨y1, y2, y3⟩ := q3
              exact ⟨⟨m, _, δ, hm, hδ, y1, Nat.le_trans (Nat.mul_le_mul_right _ (by simp [δ1])) y2, y3⟩, fun _ => y2⟩
            · rw [if_neg c1, lookup_cons] at q1
              rw [Ren.set_other ρ _ c1] at q2
              by_cases c2 : q = m
              · rw [if_pos c2] at q1; cases q1; exact q3.elim
              · rw [if_neg c2] at q1
                refine ⟨⟨q, ob, δ2, q1, q2, q3⟩, fun eg => ?_⟩
                subst eg
                rcases Nat.lt_or_ge o (δ1.len * i.size) with hlt | hge
                · exfalso
                  rcases Nat.lt_or_ge o (δ.len * i.size) with hlt2 | hge2
                  · -- an old cell of our slice is never writable
                    rcases hop with e0 | ⟨g1, off1, f, y1, y2, y3, _⟩
                    · rw [hl, e0] at hlt2; simp at hlt2
                    · simp only [Value.slice.injEq] at hvv2
                      obtain ⟨z1, _, _⟩ := hvv2
                      rw [y1] at z1; simp only [Option.some.injEq, Addr.mk.injEq] at z1
                      obtain ⟨rfl, rfl, _⟩ := z1
                      have hpos' : 0 < i.size := by
                        rcases Nat.eq_zero_or_pos i.size with e0 | e0
                        · rw [e0] at hlt2; simp at hlt2
                        · exact e0
                      have := (y3 (o / i.size) (o % i.size) ((Nat.div_lt_iff_lt_mul hpos').2 (by rw [← hl]; exact hlt2)) (Nat.mod_lt _ hpos')).1
                      rw [Nat.zero_add, show o / i.size * i.size + o % i.size = o by rw [Nat.mul_comm]; exact Nat.div_add_mod o i.size] at this
                      exact this (.inr ⟨q, ob, δ2, q1, q2, q3⟩)
                  · have hcap : o < δ.cap * i.size := Nat.lt_of_lt_of_le hlt (Nat.mul_le_mul_right _ hroom)
                    exact c2 (h.dist q m ob _ δ2 δ δ.blk o q1 hm q2 hδ q3 ⟨rfl, hge2, hcap⟩)
                · exact hge
          have hst : Stays (Fs K ρ s.mem) w (Fs K (ρ.set m' δ1) ((m', .perm i.size e) :: (m, .gone) :: s.mem)) (w.setRow δ.blk arr') := fun g o u x y => by
            refine ⟨fun z => x (z.imp id fun q => (hWr g o q).1), ?_⟩
            simp only [World.cell?, setRow_get, Option.isSome_none] at y ⊢
            by_cases eg : g = δ.blk
            · subst eg
              rw [if_pos rfl, hb]
              rw [hb] at y
              simp only at y ⊢
              rw [if_neg (by simp)] at y ⊢
              rw [hkeep o]; exact y
              rcases Nat.lt_or_ge o (δ.len * i.size) with q | q
              · exact .inl q
              · rcases Nat.lt_or_ge o (δ.cap * i.size) with q' | q'
                · exact absurd (.inr ⟨m, _, δ, hm, hδ, rfl, q, q'⟩) x
                · exact .inr q'
            · rw [if_neg eg]; exact y
          have hcellthis : ∀ j, (w.setRow δ.blk arr').cell? ⟨δ.blk, j, none⟩ = arr'[j]? := fun j => by
            simp [World.cell?, setRow_get, hb]
          have hnF : ∀ j, j < δ1.len * i.size → ¬ K.F δ.blk j → ¬ Fs K (ρ.set m' δ1) ((m', .perm i.size e) :: (m, .gone) :: s.mem) δ.blk j := by
            rintro j hj hk (x | x)
            · exact hk x
            · have := (hWr _ _ x).2 rfl; omega
          refine .own (δ := δ1) (Ren.set_same _ _ _) (by simp [δ1, hl]) ?_
          have e9 : (Value.slice (some ⟨δ1.blk, 0, none⟩) δ1.len δ1.cap) = .slice (some ⟨δ.blk, 0, none⟩) (rows.length + rows2.length) δ.cap := by simp only [δ1]; rw [hl]
          rw [e9]
          refine RepD.joined (k := i.size) (f := f1) (f2 := f2) hk1 hk2 (by omega) (fun i' j hi' hj => ?_) (fun i' j hi' hj => ?_) (fun i' j r x q1 q2 => (hr1 i' j r x q1 q2).stays hst) (fun i' j r x q1 q2 => (hr2 i' j r x q1 q2).stays hst)
          · have hne : rows ≠ [] := fun e0 => by rw [e0] at hi'; simp at hi'
            obtain ⟨g1, off1, y1, y2⟩ := hs1 hne
            simp only [Value.slice.injEq] at hvv
            obtain ⟨z1, _, _⟩ := hvv
            rw [y1] at z1; simp only [Option.some.injEq, Addr.mk.injEq] at z1
            obtain ⟨rfl, rfl, _⟩ := z1
            have hcl := y2 (i' * i.size + j) _ (flatOf_get f1 i.size rows.length hi' hj)
            rw [add_none, Nat.zero_add] at hcl
            rcases hop with e0 | ⟨g1, off1, f, y1', y2', y3, _⟩
            · exact absurd e0 hne
            · rw [y1'] at hvv2
              simp only [Value.slice.injEq, Option.some.injEq, Addr.mk.injEq] at hvv2
              obtain ⟨⟨rfl, rfl, _⟩, _, _⟩ := hvv2
              have := (y3 i' j hi' hj).1
              rw [Nat.zero_add] at this
              exact hst _ _ _ this hcl
          · have hq : i' * i.size + j < rows2.length * i.size := by
              have : (i' + 1) * i.size ≤ rows2.length * i.size := Nat.mul_le_mul_right _ hi'
              rw [Nat.add_mul] at this; omega
            have hidx : (rows.length + i') * i.size + j = δ.len * i.size + (i' * i.size + j) := by rw [hl, Nat.add_mul, Nat.add_assoc]
            have hlt : (rows.length + i') * i.size + j < δ1.len * i.size := by
              rw [hidx]; simp only [δ1]; rw [Nat.add_mul]; omega
            refine ⟨hnF _ hlt ?_, ?_⟩
            · refine (h.wr δ.blk _ ⟨m, _, δ, hm, hδ, rfl, ?_, ?_⟩).1
              · rw [hidx]; omega
              · exact Nat.lt_of_lt_of_le hlt (Nat.mul_le_mul_right _ hroom)
            · rw [hcellthis, hidx, ha2 _ (by rw [flatOf_length]; exact hq)]
              exact flatOf_get _ _ _ hi' hj
      · -- a new block
        have hrun := run_append_grow (P := P) w t ty e i z ht hi hz ⟨δ.blk, 0, none⟩ δ.len δ.cap (flatOf f1 i.size rows.length) (by rw [flatOf_length, hl])
          (fun j u hu => by
            have hne : rows ≠ [] := fun e0 => by rw [e0] at hu; simp [flatOf] at hu
            obtain ⟨g1, off1, y1, y2⟩ := hs1 hne
            simp only [Value.slice.injEq] at hvv
            obtain ⟨z1, _, _⟩ := hvv
            rw [y1] at z1; cases z1
            exact y2 j u hu)
          ⟨g, off, none⟩ rows2.length c2 (flatOf f2 i.size rows2.length) (by rw [flatOf_length]) hc (by omega) (by rw [hl]; omega)
          (by
            have := nextslicecap_le (δ.len + rows2.length) δ.cap (by omega)
            have h2 := Nat.mul_le_mul_right i.bytes this
            rw [Nat.mul_assoc] at h2
            rw [hl] at h2 ⊢
            omega)
        have hge := grownCap_ge w (δ.len + rows2.length) δ.cap e
        have hcm := grownCap_le_maxLen w (δ.len + rows2.length) δ.cap e (by rw [hl]; exact h63)
        obtain ⟨ρ1, q1, q2, q3, q4⟩ := newblock f1 hr1 (grownCap w (δ.len + rows2.length) δ.cap e) (by rw [← hl]; exact hge) hcm (Builtin.zeroCells z.cells (grownCap w (δ.len + rows2.length) δ.cap e - (δ.len + rows2.length))).toList
          (by
            have e0 : (Builtin.zeroCells z.cells (grownCap w (δ.len + rows2.length) δ.cap e - (δ.len + rows2.length))).toList.length = (grownCap w (δ.len + rows2.length) δ.cap e - (δ.len + rows2.length)) * i.size := by
              rw [Array.length_toList, size_zeroCells, hzs]
            rw [e0, flatOf_length, flatOf_length, ← Nat.add_mul, ← Nat.add_mul]
            congr 1; rw [hl] at hge ⊢; omega) w.drew rfl rfl rfl rfl
        have earr : ((flatOf f1 i.size rows.length).toArray ++ (flatOf f2 i.size rows2.length).toArray ++ Builtin.zeroCells z.cells (grownCap w (δ.len + rows2.length) δ.cap e - (δ.len + rows2.length))) =
            (flatOf f1 i.size rows.length ++ flatOf f2 i.size rows2.length ++ (Builtin.zeroCells z.cells (grownCap w (δ.len + rows2.length) δ.cap e - (δ.len + rows2.length))).toList).toArray := by
          apply Array.toList_inj.1
          simp
        rw [earr] at hrun
        rw [show rows.length + rows2.length = δ.len + rows2.length by rw [hl]] at q4
        exact ⟨_, _, ρ1, hrun, q1, q2, q3, q4, Nat.le_refl _⟩

end Go.Am
