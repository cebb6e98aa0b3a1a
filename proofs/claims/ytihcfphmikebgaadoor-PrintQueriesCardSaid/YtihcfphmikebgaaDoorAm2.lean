/- How the likeness goes on: a slot is written; a new object; a store into an object; a slice of one's own grows. -/
import Derived.Test.YtihcfphmikebgaaDoorAm1
import Derived.Laws.CopyRow
namespace Go.Am
open Go.RowKit

variable {K : Ctx} {ρ ρ' : Ren} {s : St} {a : Act} {w w' : World}

theorem lookup_cons {β : Type} (k k' : Nat) (v : β) (l : List (Nat × β)) : List.lookup k ((k', v) :: l) = if k = k' then some v else List.lookup k l := by
  simp only [List.lookup]
  by_cases h : k = k'
  · simp [h]
  · simp [h, beq_eq_false_iff_ne.2 h]

/-- A slot's new value; memory stays. -/
theorem SimR.put (h : SimR K ρ s a w) {d : Nat} {x : A} {v : Value} (hd : d < K.n) (hx : RepA (Fs K ρ s.mem) ρ w x v) :
    SimR K ρ { s with sl := (d, x) :: s.sl } (a.put (some d) v) w where
  n := by simpa [Act.put] using h.n
  slots := by
    intro t y hy
    rw [lookup_cons] at hy
    simp only [Act.put]
    by_cases e : t = d
    · subst e
      simp at hy
      subst hy
      have : t < a.tmps.size := by rw [h.n]; exact hd
      simpa [Array.getD_eq_getD_getElem?, Array.getElem?_setIfInBounds, this] using hx
    · rw [if_neg e] at hy
      have := h.slots t y hy
      simpa [Array.getD_eq_getD_getElem?, Array.getElem?_setIfInBounds, Ne.symm e] using this
  mem := h.mem
  dom := h.dom
  dist := h.dist
  wr := h.wr
  fr := h.fr
  fF := h.fF
  ent := h.ent
  defs := h.defs

/-- A slot is forgotten. -/
theorem SimR.drop (h : SimR K ρ s a w) {d : Nat} (v : Value) :
    SimR K ρ { s with sl := s.sl.filter (fun p => p.1 != d) } (a.put (some d) v) w where
  n := by simpa [Act.put] using h.n
  slots := by
    intro t y hy
    simp only [Act.put]
    have key : ∀ (l : List (Nat × A)), (l.filter (fun p => p.1 != d)).lookup t = some y → t ≠ d ∧ l.lookup t = some y := by
      intro l
      induction l with
      | nil => intro h; simp at h
      | cons p l ih =>
        obtain ⟨k, z⟩ := p
        intro h
        by_cases e : k = d
        · subst e
          simp only [List.filter, bne_self_eq_false] at h
          obtain ⟨h1, h2⟩ := ih h
          exact ⟨h1, by rw [lookup_cons, if_neg h1]; exact h2⟩
        · simp only [List.filter, bne_iff_ne.2 e] at h
          rw [lookup_cons] at h ⊢
          by_cases e2 : t = k
          · subst e2; exact ⟨e, by simpa using h⟩
          · rw [if_neg e2] at h ⊢; exact ih h
    obtain ⟨h1, h2⟩ := key s.sl hy
    have := h.slots t y h2
    simpa [Array.getD_eq_getD_getElem?, Array.getElem?_setIfInBounds, Ne.symm h1] using this
  mem := h.mem
  dom := h.dom
  dist := h.dist
  wr := h.wr
  fr := h.fr
  fF := h.fF
  ent := h.ent
  defs := h.defs

/-- Memory turns. -/
theorem SimR.move (h : SimR K ρ s a w) {mem' : List (Nat × Ob)} (hρ : ρ.le ρ') (hst : Stays (Fs K ρ s.mem) w (Fs K ρ' mem') w')
    (hmem : ∀ m ob, mem'.lookup m = some ob → SatOb (Fs K ρ' mem') ρ' w' m ob) (hdom : ∀ m, mem'.lookup m = none → ρ' m = none)
    (hdist : ∀ m m' ob ob' δ δ' g o, mem'.lookup m = some ob → mem'.lookup m' = some ob' → ρ' m = some δ → ρ' m' = some δ' → ob.wr δ g o → ob'.wr δ' g o → m = m')
    (hwr : ∀ g o, Wr ρ' mem' g o → ¬ K.F g o ∧ g < w'.heap.size ∧ (K.L g o ∨ K.w0.heap.size ≤ g)) (hfr : Frm K.w0 K.L w') : SimR K ρ' { s with mem := mem' } a w' where
  n := h.n
  slots := fun t x hx => (h.slots t x hx).stays hst hρ
  mem := hmem
  dom := hdom
  dist := hdist
  wr := hwr
  fr := hfr
  fF := h.fF
  ent := Ren.le_trans h.ent hρ
  defs := ⟨h.defs.1, fun i x d h1 h2 => by
    have := h.defs.2 i x d h1 h2
    cases this with
    | mk e1 e2 => exact .mk e1 (fun i x hx => (e2 i x hx).stays hst hρ)⟩

/-- A block keeps its kind and its size. -/
def KeepsKind (w w' : World) : Prop := ∀ (g : Nat) (arr : Array Value) (t : TypeId) (fr : Nat × Nat), w.heap[g]? = some (Obj.cells arr t fr) → ∃ arr' : Array Value, w'.heap[g]? = some (Obj.cells arr' t fr) ∧ arr'.size = arr.size
/-- The object is a whole block. -/
def Ob.whole : Ob → Bool
  | .box _ => true
  | .iter _ _ => true
  | _ => false
theorem Ob.whole_wr {ob : Ob} (h : ob.whole = true) (δ : Desc) (o : Nat) : ob.wr δ δ.blk o := by
  cases ob <;> first | exact rfl | cases h
theorem SatOb.stays {F F' : Loc} {m : Nat} {ob : Ob} (hst : Stays F w F' w') (hρ : ρ.le ρ') (hk : KeepsKind w w')
    (hb : ∀ δ, ρ m = some δ → ob.whole = true → w'.heap[δ.blk]? = w.heap[δ.blk]?) (h : SatOb F ρ w m ob) : SatOb F' ρ' w' m ob := by
  cases h with
  | box h1 h2 h3 h4 => exact .box (hρ _ _ h1) ((hb _ h1 rfl).trans h2) h3 (fun i x hx => (h4 i x hx).stays hst hρ)
  | perm h1 h2 h3 h4 h5 =>
    obtain ⟨arr', e1, e2⟩ := hk _ _ _ _ h2
    exact .perm (hρ _ _ h1) e1 h3 h4 (e2.trans h5)
  | tab h1 h2 h3 h4 =>
    obtain ⟨arr', e1, e2⟩ := hk _ _ _ _ h2
    exact .tab (hρ _ _ h1) e1 (e2.trans h3) (fun i v hv => hst _ _ _ (h4 i v hv).1 (h4 i v hv).2)
  | permNil h1 h2 => exact .permNil (hρ _ _ h1) h2
  | iter h1 h2 => exact .iter (hρ _ _ h1) ((hb _ h1 rfl).trans h2)
  | gone => exact .gone
theorem KeepsKind.of_eq (h : ∀ g, g < w.heap.size → w'.heap[g]? = w.heap[g]?) : KeepsKind w w' := fun g arr t fr e => ⟨arr, (h g (Array.getElem?_eq_some_iff.1 e).1).trans e, rfl⟩

theorem Wr.lt (h : SimR K ρ s a w) {g o : Nat} (hw : Wr ρ s.mem g o) : g < w.heap.size := (h.wr g o hw).2.1

theorem SatOb.blk_lt {F : Loc} {m : Nat} {ob : Ob} {δ : Desc} (h : SatOb F ρ w m ob) (hw : ob.whole = true) (hδ : ρ m = some δ) : δ.blk < w.heap.size := by
  cases h with
  | box h1 h2 => rw [hδ] at h1; cases h1; exact (Array.getElem?_eq_some_iff.1 h2).1
  | iter h1 h2 => rw [hδ] at h1; cases h1; exact (Array.getElem?_eq_some_iff.1 h2).1
  | _ => cases hw

def Ren.set (ρ : Ren) (m : Nat) (δ : Desc) : Ren := fun i => if i = m then some δ else ρ i
theorem Ren.set_same (ρ : Ren) (m : Nat) (δ : Desc) : ρ.set m δ m = some δ := by simp [Ren.set]
theorem Ren.set_other (ρ : Ren) {m i : Nat} (δ : Desc) (h : i ≠ m) : ρ.set m δ i = ρ i := by simp [Ren.set, h]
theorem Ren.le_set {m : Nat} (hm : ρ m = none) (δ : Desc) : ρ.le (ρ.set m δ) := by
  intro i δ' hi
  have : i ≠ m := fun e => by rw [e, hm] at hi; cases hi
  rw [Ren.set_other ρ δ this]; exact hi

/-- Draws alone. -/
theorem SimR.heap (h : SimR K ρ s a w) (hh : w'.heap = w.heap) (ho : w'.os = w.os) (ht : w'.tape = w.tape) (hu : w'.output = w.output) : SimR K ρ s a w' := by
  have hc : ∀ x, w'.cell? x = w.cell? x := fun x => by simp [World.cell?, hh]
  have hst : Stays (Fs K ρ s.mem) w (Fs K ρ s.mem) w' := fun g o u h1 h2 => ⟨h1, by rw [hc]; exact h2⟩
  refine h.move (mem' := s.mem) (Ren.le_refl _) hst (fun m ob hm => (h.mem m ob hm).stays hst (Ren.le_refl _) (.of_eq fun g _ => by rw [hh]) (fun δ _ _ => by rw [hh])) h.dom h.dist (fun g o hw => by rw [hh]; exact h.wr g o hw) ?_
  refine h.fr.trans (L' := fun _ _ => False) ⟨ho, ht, hu, by rw [hh]; exact Nat.le_refl _, fun g _ => .inl (by rw [hh])⟩ (fun _ _ _ x => x.elim)

theorem alloc_heap_old (w : World) (o : Obj) {k : Nat} (h : k < w.heap.size) : (w.alloc o).heap[k]? = w.heap[k]? := Below.heap_alloc w o k h
theorem alloc_heap_new (w : World) (o : Obj) : (w.alloc o).heap[w.heap.size]? = some o := by
  show (w.heap.push o)[w.heap.size]? = _
  simp

theorem Frm.alloc {w0 : World} {L : Loc} (h : Frm w0 L w) (o : Obj) : Frm w0 L (w.alloc o) :=
  h.trans (L' := fun _ _ => False) ⟨rfl, rfl, rfl, by simp, fun g hg => .inl (alloc_heap_old w o hg)⟩ (fun _ _ _ x => x.elim)

/-- A new block, whatever becomes of it, leaves what is told as it is. -/
theorem SimR.junk (h : SimR K ρ s a w) (o : Obj) : SimR K ρ s a (w.alloc o) := by
  have hst : Stays (Fs K ρ s.mem) w (Fs K ρ s.mem) (w.alloc o) := fun g o' u h1 h2 => ⟨h1, by rw [World.cell?_alloc_lt _ _ _ (World.block_lt_of_cell? w _ h2)]; exact h2⟩
  refine h.move (mem' := s.mem) (Ren.le_refl _) hst (fun m ob hm => (h.mem m ob hm).stays hst (Ren.le_refl _) (.of_eq fun g hg => alloc_heap_old w o hg) (fun δ hδ hne => alloc_heap_old w o ((h.mem m _ hm).blk_lt hne hδ))) h.dom h.dist
    (fun g o' hw => ⟨(h.wr g o' hw).1, by have := (h.wr g o' hw).2.1; simp; omega, (h.wr g o' hw).2.2⟩) (h.fr.alloc o)

theorem Wr.cons_new {m : Nat} {ob : Ob} {mem : List (Nat × Ob)} {δ : Desc} (hm : mem.lookup m = none) {g o : Nat} :
    Wr (ρ.set m δ) ((m, ob) :: mem) g o ↔ ob.wr δ g o ∨ Wr ρ mem g o := by
  constructor
  · rintro ⟨i, ob', δ', h1, h2, h3⟩
    rw [lookup_cons] at h1
    by_cases e : i = m
    · subst e
      simp at h1; subst h1
      rw [Ren.set_same] at h2; cases h2
      exact .inl h3
    · rw [if_neg e] at h1
      rw [Ren.set_other ρ δ e] at h2
      exact .inr ⟨i, ob', δ', h1, h2, h3⟩
  · rintro (h | ⟨i, ob', δ', h1, h2, h3⟩)
    · exact ⟨m, ob, δ, by rw [lookup_cons]; simp, Ren.set_same _ _ _, h⟩
    · have e : i ≠ m := fun e => by rw [e, hm] at h1; cases h1
      exact ⟨i, ob', δ', by rw [lookup_cons, if_neg e]; exact h1, by rw [Ren.set_other ρ δ e]; exact h2, h3⟩

/-- A new object of one's own: its block is the newest. -/
theorem SimR.fresh (h : SimR K ρ s a w) {m : Nat} {ob : Ob} {δ : Desc} {arr : Array Value} {t : TypeId} (hm : s.mem.lookup m = none) (hwrb : ∀ g o, ob.wr δ g o → g = w.heap.size)
    (hob : ∀ F', Stays (Fs K ρ s.mem) w F' (w.alloc (.cells arr t)) → (∀ o, F' w.heap.size o → ob.wr δ w.heap.size o) → SatOb F' (ρ.set m δ) (w.alloc (.cells arr t)) m ob) :
    SimR K (ρ.set m δ) { s with mem := (m, ob) :: s.mem } a (w.alloc (.cells arr t)) := by
  have hle := Ren.le_set (h.dom m hm) δ
  have hF : ∀ g o, K.F g o → g < w.heap.size := fun g o x => Nat.lt_of_lt_of_le (h.fF g o x) h.fr.size
  have hst : Stays (Fs K ρ s.mem) w (Fs K (ρ.set m δ) ((m, ob) :: s.mem)) (w.alloc (.cells arr t)) := fun g o u h1 h2 => by
    have hg := World.block_lt_of_cell? w _ h2
    refine ⟨?_, by rw [World.cell?_alloc_lt _ _ _ hg]; exact h2⟩
    rintro (x | x)
    · exact h1 (.inl x)
    · rcases (Wr.cons_new hm).1 x with y | y
      · have := hwrb _ _ y; simp only at hg; omega
      · exact h1 (.inr y)
  refine h.move hle hst (fun i ob' hi => ?_) (fun i hi => ?_) (fun i i' ob1 ob2 δ1 δ2 g o h1 h2 r1 r2 n1 n2 => ?_) (fun g o hw => ?_) (h.fr.alloc _)
  · rw [lookup_cons] at hi
    by_cases e : i = m
    · subst e
      simp at hi; subst hi
      refine hob _ hst (fun o ho => ?_)
      rcases ho with x | x
      · exact absurd (hF _ _ x) (Nat.lt_irrefl _)
      · rcases (Wr.cons_new hm).1 x with y | y
        · exact y
        · exact absurd (Wr.lt h y) (Nat.lt_irrefl _)
    · rw [if_neg e] at hi
      exact (h.mem i ob' hi).stays hst hle (.of_eq fun g hg => alloc_heap_old w _ hg) (fun δ' hδ' hne' => alloc_heap_old w _ ((h.mem i _ hi).blk_lt hne' hδ'))
  · rw [lookup_cons] at hi
    by_cases e : i = m
    · simp [e] at hi
    · rw [if_neg e] at hi; rw [Ren.set_other ρ δ e]; exact h.dom i hi
  · rw [lookup_cons] at h1 h2
    by_cases e : i = m
    · by_cases e' : i' = m
      · rw [e, e']
      · rw [if_neg e'] at h2
        rw [if_pos e] at h1; cases h1
        rw [e, Ren.set_same] at r1; cases r1
        rw [Ren.set_other ρ δ e'] at r2
        have := hwrb _ _ n1
        have := Wr.lt h ⟨i', ob2, δ2, h2, r2, n2⟩
        omega
    · rw [if_neg e] at h1
      rw [Ren.set_other ρ δ e] at r1
      by_cases e' : i' = m
      · rw [e', Ren.set_same] at r2; cases r2
        rw [if_pos e'] at h2; cases h2
        have := hwrb _ _ n2
        have := Wr.lt h ⟨i, ob1, δ1, h1, r1, n1⟩
        omega
      · rw [if_neg e'] at h2
        rw [Ren.set_other ρ δ e'] at r2
        exact h.dist i i' ob1 ob2 δ1 δ2 g o h1 h2 r1 r2 n1 n2
  · rcases (Wr.cons_new hm).1 hw with y | y
    · have e := hwrb _ _ y
      subst e
      exact ⟨fun x => absurd (hF _ _ x) (Nat.lt_irrefl _), by simp, .inr h.fr.size⟩
    · exact ⟨(h.wr g o y).1, by have := (h.wr g o y).2.1; simp; omega, (h.wr g o y).2.2⟩

theorem setRow_get (w : World) (g : Nat) (cs : Array Value) (k : Nat) : (w.setRow g cs).heap[k]? = if k = g then (match w.heap[k]? with | some (.cells _ t fr) => some (.cells cs t fr) | o => o) else w.heap[k]? := by
  simp only [World.setRow, Array.getElem?_modify]
  by_cases h : k = g
  · subst h
    simp
    cases w.heap[k]? with
    | none => rfl
    | some o => cases o <;> rfl
  · simp [h, Ne.symm h]

/-- Object m's block is written; the places that it may write grow no more than within what could be written. -/
theorem SimR.store (h : SimR K ρ s a w) {m : Nat} {cs cs' : List C} {δ : Desc} {arr arr' : Array Value} {t : TypeId} (hm : s.mem.lookup m = some (.box cs)) (hδ : ρ m = some δ)
    (hb : w.heap[δ.blk]? = some (.cells arr t (0, 0))) (hsz : arr'.size = arr.size) (hl : arr'.size = cs'.length)
    (hc : ∀ (i : Nat) (x : C), cs'[i]? = some x → RepC (Fs K ρ s.mem) ρ w x (arr'.getD i undef)) :
    SimR K ρ { s with mem := (m, .box cs') :: s.mem } a (w.setRow δ.blk arr') := by
  have hWr : ∀ g o, Wr ρ ((m, .box cs') :: s.mem) g o ↔ Wr ρ s.mem g o := by
    intro g o
    constructor
    · rintro ⟨i, ob', δ', h1, h2, h3⟩
      rw [lookup_cons] at h1
      by_cases e : i = m
      · subst e
        simp at h1; subst h1
        exact ⟨i, _, δ', hm, h2, h3⟩
      · rw [if_neg e] at h1; exact ⟨i, ob', δ', h1, h2, h3⟩
    · rintro ⟨i, ob', δ', h1, h2, h3⟩
      by_cases e : i = m
      · subst e
        rw [hm] at h1; cases h1
        exact ⟨i, .box cs', δ', by rw [lookup_cons]; simp, h2, h3⟩
      · exact ⟨i, ob', δ', by rw [lookup_cons, if_neg e]; exact h1, h2, h3⟩
  have hin : ∀ o, Wr ρ s.mem δ.blk o := fun o => ⟨m, _, δ, hm, hδ, rfl⟩
  have hst : Stays (Fs K ρ s.mem) w (Fs K ρ ((m, .box cs') :: s.mem)) (w.setRow δ.blk arr') := fun g o u h1 h2 => by
    have hg : g ≠ δ.blk := fun e => h1 (.inr (e ▸ hin o))
    refine ⟨fun x => h1 (x.imp id (hWr g o).1), ?_⟩
    simp only [World.cell?, setRow_get, if_neg hg] at h2 ⊢
    exact h2
  have hoth : ∀ g, g ≠ δ.blk → (w.setRow δ.blk arr').heap[g]? = w.heap[g]? := fun g hg => by rw [setRow_get, if_neg hg]
  have hsize : (w.setRow δ.blk arr').heap.size = w.heap.size := by simp [World.setRow]
  have hthis : (w.setRow δ.blk arr').heap[δ.blk]? = some (.cells arr' t (0, 0)) := by rw [setRow_get, if_pos rfl, hb]
  have hkk : KeepsKind w (w.setRow δ.blk arr') := fun g arr2 t2 fr2 e2 => by
    by_cases eg : g = δ.blk
    · subst eg
      rw [hb] at e2; cases e2
      exact ⟨arr', hthis, hsz⟩
    · exact ⟨arr2, (hoth g eg).trans e2, rfl⟩
  refine h.move (Ren.le_refl _) hst (fun i ob' hi => ?_) (fun i hi => ?_) (fun i i' ob1 ob2 δ1 δ2 g o h1 h2 r1 r2 n1 n2 => ?_) (fun g o hw => ?_) ?_
  · rw [lookup_cons] at hi
    by_cases e : i = m
    · subst e
      simp at hi; subst hi
      exact .box hδ hthis hl (fun j x hx => (hc j x hx).stays hst (Ren.le_refl _))
    · rw [if_neg e] at hi
      refine (h.mem i ob' hi).stays hst (Ren.le_refl _) hkk (fun δ' hδ' hne' => hoth _ (fun e' => e ?_))
      exact h.dist i m _ (.box cs) δ' δ δ.blk 0 hi hm hδ' hδ (e' ▸ Ob.whole_wr hne' δ' 0) rfl
  · rw [lookup_cons] at hi
    by_cases e : i = m
    · simp [e] at hi
    · rw [if_neg e] at hi; exact h.dom i hi
  · rw [lookup_cons] at h1 h2
    by_cases e1 : i = m
    · by_cases e2 : i' = m
      · rw [e1, e2]
      · rw [if_neg e2] at h2
        subst e1
        rw [if_pos rfl] at h1; cases h1
        exact h.dist i i' (.box cs) ob2 δ1 δ2 g o hm h2 r1 r2 n1 n2
    · rw [if_neg e1] at h1
      by_cases e2 : i' = m
      · subst e2
        rw [if_pos rfl] at h2; cases h2
        exact h.dist i i' ob1 (.box cs) δ1 δ2 g o h1 hm r1 r2 n1 n2
      · rw [if_neg e2] at h2
        exact h.dist i i' ob1 ob2 δ1 δ2 g o h1 h2 r1 r2 n1 n2
  · rw [hsize]; exact h.wr g o ((hWr g o).1 hw)
  · refine h.fr.trans (L' := fun g _ => g = δ.blk) ⟨rfl, rfl, rfl, by rw [hsize]; exact Nat.le_refl _, fun g _ => ?_⟩ (fun g j hg e => ?_)
    · by_cases e : g = δ.blk
      · subst e
        exact .inr (.inl ⟨arr, arr', t, (0, 0), hb, hthis, hsz, fun j hj => absurd rfl hj⟩)
      · exact .inl (hoth g e)
    · subst e
      rcases (h.wr δ.blk j (hin j)).2.2 with x | x
      · exact x
      · omega

end Go.Am
