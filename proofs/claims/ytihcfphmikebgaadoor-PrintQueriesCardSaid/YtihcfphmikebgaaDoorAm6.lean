/- Names changed; what is told made weaker; a function's contract. -/
import Derived.Test.YtihcfphmikebgaaDoorAm5
namespace Go.Am
open Go.RowKit
set_option linter.unusedVariables false

variable {K : Ctx} {ρ ρ' : Ren} {s : St} {a : Act} {w w' : World} {F F' : Loc} {P : Program}

mutual
def C.ren (σ : Nat → Nat) : C → C
  | .d x => .d x
  | .ref m off => .ref (σ m) off
  | .own m rows => .own (σ m) rows
  | .row m n => .row (σ m) n
  | .pel cs => .pel cs
  | .clo fn first caps => .clo fn (C.rens σ first) (C.rens σ caps)
def C.rens (σ : Nat → Nat) : List C → List C
  | [] => []
  | x :: l => x.ren σ :: C.rens σ l
end
theorem C.rens_eq (σ : Nat → Nat) (l : List C) : C.rens σ l = l.map (C.ren σ) := by induction l <;> simp_all [C.rens]

mutual
def A.ren (σ : Nat → Nat) : A → A
  | .c x => .c (x.ren σ)
  | .agg cs => .agg (C.rens σ cs)
  | .tup l => .tup (A.rens σ l)
def A.rens (σ : Nat → Nat) : List A → List A
  | [] => []
  | x :: l => x.ren σ :: A.rens σ l
end
theorem A.rens_eq (σ : Nat → Nat) (l : List A) : A.rens σ l = l.map (A.ren σ) := by induction l <;> simp_all [A.rens]

def Ob.ren (σ : Nat → Nat) : Ob → Ob
  | .box cs => .box (C.rens σ cs)
  | .perm k e => .perm k e
  | .iter s p => .iter s p
  | .tab g vs => .tab g vs
  | .gone => .gone

mutual
def C.ids : C → List Nat
  | .d _ => []
  | .ref m _ => [m]
  | .own m _ => [m]
  | .row m _ => [m]
  | .pel _ => []
  | .clo _ first caps => C.idss first ++ C.idss caps
def C.idss : List C → List Nat
  | [] => []
  | x :: l => x.ids ++ C.idss l
end
mutual
def A.ids : A → List Nat
  | .c x => x.ids
  | .agg cs => C.idss cs
  | .tup l => A.idss l
def A.idss : List A → List Nat
  | [] => []
  | x :: l => x.ids ++ A.idss l
end
def Ob.ids : Ob → List Nat
  | .box cs => C.idss cs
  | _ => []

theorem C.mem_idss {l : List C} {x : C} {i m : Nat} (hx : l[i]? = some x) (hm : m ∈ x.ids) : m ∈ C.idss l := by
  induction l generalizing i with
  | nil => simp at hx
  | cons y l ih =>
    cases i with
    | zero => simp at hx; subst hx; simp [C.idss, hm]
    | succ i => simp at hx; simp [C.idss, ih hx]
theorem A.mem_idss {l : List A} {x : A} {i m : Nat} (hx : l[i]? = some x) (hm : m ∈ x.ids) : m ∈ A.idss l := by
  induction l generalizing i with
  | nil => simp at hx
  | cons y l ih =>
    cases i with
    | zero => simp at hx; subst hx; simp [A.idss, hm]
    | succ i => simp at hx; simp [A.idss, ih hx]

/-- Read through a change of names, both ways; only the names that occur count. -/
theorem RepC.unren {σ : Nat → Nat} {x : C} {v : Value} (h : RepC F ρ w (x.ren σ) v) : (∀ m, m ∈ x.ids → ρ' m = ρ (σ m)) → RepC F ρ' w x v := by
  generalize hy : x.ren σ = y at h
  induction h generalizing x with
  | d h => cases x <;> simp only [C.ren, C.d.injEq, reduceCtorEq] at hy; subst hy; exact fun _ => .d h
  | ref h =>
    cases x <;> simp only [C.ren, C.ref.injEq, reduceCtorEq] at hy
    obtain ⟨rfl, rfl⟩ := hy
    exact fun hi => .ref (by rw [hi _ (by simp [C.ids])]; exact h)
  | own h hl hr =>
    cases x <;> simp only [C.ren, C.own.injEq, reduceCtorEq] at hy
    obtain ⟨rfl, rfl⟩ := hy
    exact fun hi => .own (by rw [hi _ (by simp [C.ids])]; exact h) hl hr
  | ownNil h hc =>
    cases x <;> simp only [C.ren, C.own.injEq, reduceCtorEq] at hy
    obtain ⟨rfl, rfl⟩ := hy
    exact fun hi => .ownNil (by rw [hi _ (by simp [C.ids])]; exact h) hc
  | row h =>
    cases x <;> simp only [C.ren, C.row.injEq, reduceCtorEq] at hy
    obtain ⟨rfl, rfl⟩ := hy
    exact fun hi => .row (by rw [hi _ (by simp [C.ids])]; exact h)
  | pel g off f hcell hr => cases x <;> simp only [C.ren, C.pel.injEq, reduceCtorEq] at hy; subst hy; exact fun _ => .pel g off f hcell hr
  | clo h1 h2 hv hu ih1 ih2 =>
    cases x <;> simp only [C.ren, C.clo.injEq, reduceCtorEq] at hy
    rename_i fn first caps vs us fn' first' caps'
    obtain ⟨rfl, rfl, rfl⟩ := hy
    rw [C.rens_eq] at h1 h2 ih1 ih2
    simp only [List.length_map] at h1 h2
    intro hi
    refine .clo h1 h2 (fun i x hx => ?_) (fun i x hx => ?_)
    · exact ih1 i (x.ren σ) (by simp [hx]) rfl (fun m hm => hi m (by simp only [C.ids, List.mem_append]; exact .inl (C.mem_idss hx hm)))
    · exact ih2 i (x.ren σ) (by simp [hx]) rfl (fun m hm => hi m (by simp only [C.ids, List.mem_append]; exact .inr (C.mem_idss hx hm)))

theorem RepA.unren {σ : Nat → Nat} {x : A} {v : Value} (h : RepA F ρ w (x.ren σ) v) : (∀ m, m ∈ x.ids → ρ' m = ρ (σ m)) → RepA F ρ' w x v := by
  generalize hy : x.ren σ = y at h
  induction h generalizing x with
  | c h => cases x <;> simp only [A.ren, A.c.injEq, reduceCtorEq] at hy; subst hy; exact fun hi => .c (h.unren hi)
  | agg h1 hv =>
    cases x <;> simp only [A.ren, A.agg.injEq, reduceCtorEq] at hy
    subst hy
    rw [C.rens_eq] at h1 hv
    exact fun hi => .agg (by simpa using h1) (fun i x hx => (hv i (x.ren σ) (by simp [hx])).unren (fun m hm => hi m (C.mem_idss hx hm)))
  | tup h1 hv ih =>
    cases x <;> simp only [A.ren, A.tup.injEq, reduceCtorEq] at hy
    subst hy
    rw [A.rens_eq] at h1 ih
    exact fun hi => .tup (by simpa using h1) (fun i x hx => ih i (x.ren σ) (by simp [hx]) rfl (fun m hm => hi m (A.mem_idss hx hm)))

theorem RepC.reren {σ : Nat → Nat} {x : C} {v : Value} (h : RepC F ρ w x v) : (∀ m δ, ρ m = some δ → ρ' (σ m) = some δ) → RepC F ρ' w (x.ren σ) v := by
  intro hi
  induction h with
  | d h => exact .d h
  | ref h => exact .ref (hi _ _ h)
  | own h hl hr => exact .own (hi _ _ h) hl hr
  | ownNil h hc => exact .ownNil (hi _ _ h) hc
  | row h => exact .row (hi _ _ h)
  | pel g off f hcell hr => exact .pel g off f hcell hr
  | clo h1 h2 _ _ ih1 ih2 =>
    simp only [C.ren, C.rens_eq]
    refine .clo (by simpa using h1) (by simpa using h2) (fun i x hx => ?_) (fun i x hx => ?_)
    · simp only [List.getElem?_map, Option.map_eq_some_iff] at hx
      obtain ⟨y, hy, rfl⟩ := hx
      exact ih1 i y hy
    · simp only [List.getElem?_map, Option.map_eq_some_iff] at hx
      obtain ⟨y, hy, rfl⟩ := hx
      exact ih2 i y hy

theorem RepA.reren {σ : Nat → Nat} {x : A} {v : Value} (h : RepA F ρ w x v) : (∀ m δ, ρ m = some δ → ρ' (σ m) = some δ) → RepA F ρ' w (x.ren σ) v := by
  intro hi
  induction h with
  | c h => exact .c (h.reren hi)
  | agg h1 hv =>
    simp only [A.ren, C.rens_eq]
    refine .agg (by simpa using h1) (fun i x hx => ?_)
    simp only [List.getElem?_map, Option.map_eq_some_iff] at hx
    obtain ⟨y, hy, rfl⟩ := hx
    exact (hv i y hy).reren hi
  | tup h1 _ ih =>
    simp only [A.ren, A.rens_eq]
    refine .tup (by simpa using h1) (fun i x hx => ?_)
    simp only [List.getElem?_map, Option.map_eq_some_iff] at hx
    obtain ⟨y, hy, rfl⟩ := hx
    exact ih i y hy

/-- Memory alone. -/
structure MS (F : Loc) (ρ : Ren) (mem : List (Nat × Ob)) (w : World) : Prop where
  sat : ∀ m ob, mem.lookup m = some ob → SatOb (fun g o => F g o ∨ Wr ρ mem g o) ρ w m ob
  dom : ∀ m, mem.lookup m = none → ρ m = none
  dist : ∀ m m' ob ob' δ δ' g o, mem.lookup m = some ob → mem.lookup m' = some ob' → ρ m = some δ → ρ m' = some δ' → ob.wr δ g o → ob'.wr δ' g o → m = m'
  wr : ∀ g o, Wr ρ mem g o → ¬ F g o ∧ g < w.heap.size
  fF : ∀ g o, F g o → g < w.heap.size

theorem SimR.ms (h : SimR K ρ s a w) : MS K.F ρ s.mem w :=
  ⟨h.mem, h.dom, h.dist, fun g o x => ⟨(h.wr g o x).1, (h.wr g o x).2.1⟩, fun g o x => Nat.lt_of_lt_of_le (h.fF g o x) h.fr.size⟩

/-- What function f does: with these arguments, where this memory is lent to it, it answers so, and leaves that memory. -/
def Spec (P : Program) (f : FuncId) (args : List A) (mem : List (Nat × Ob)) (res : A) (mem' : List (Nat × Ob)) : Prop :=
  ∀ (F : Loc) (ρ : Ren) (w : World) (vs : Array Value), MS F ρ mem w → args.length = vs.size →
    (∀ (i : Nat) (x : A), args[i]? = some x → RepA (fun g o => F g o ∨ Wr ρ mem g o) ρ w x (vs.getD i undef)) →
    Calls P f vs w fun e w' => ∃ v ρ', e = .returned v ∧ ρ.le ρ' ∧ MS F ρ' mem' w' ∧ RepA (fun g o => F g o ∨ Wr ρ' mem' g o) ρ' w' res v ∧
      (∀ g o, Wr ρ' mem' g o → Wr ρ mem g o ∨ w.heap.size ≤ g) ∧ Frm w (Wr ρ mem) w'

/-- A function that only reads: no memory is lent, none is handed back. -/
abbrev Fun (P : Program) (f : FuncId) (args : List A) (res : A) : Prop := Spec P f args [] res []

/-- x tells no more than y. -/
def A.le (y x : A) : Prop := ∀ F ρ w v, RepA F ρ w y v → RepA F ρ w x v
def C.le (y x : C) : Prop := ∀ F ρ w v, RepC F ρ w y v → RepC F ρ w x v
def Ob.le : Ob → Ob → Prop
  | .box cs, .box ds => cs.length = ds.length ∧ ∀ (i : Nat) (x y : C), cs[i]? = some x → ds[i]? = some y → C.le x y
  | o, o' => o = o'
theorem A.le_refl (x : A) : A.le x x := fun _ _ _ _ h => h
theorem C.le_refl (x : C) : C.le x x := fun _ _ _ _ h => h
theorem Ob.le_refl (o : Ob) : Ob.le o o := by
  cases o with
  | box cs => exact ⟨rfl, fun i x y h1 h2 => by rw [h1] at h2; cases h2; exact C.le_refl _⟩
  | _ => rfl

theorem lookup_mem {β : Type} {l : List (Nat × β)} {k : Nat} {v : β} (h : l.lookup k = some v) : (k, v) ∈ l := by
  induction l with
  | nil => simp at h
  | cons p l ih =>
    obtain ⟨k', v'⟩ := p
    rw [lookup_cons] at h
    by_cases e : k = k'
    · rw [if_pos e] at h; cases h; subst e; simp
    · rw [if_neg e] at h; exact List.mem_cons_of_mem _ (ih h)
theorem lookup_isSome_of_mem {β : Type} {l : List (Nat × β)} {k : Nat} {v : β} (h : (k, v) ∈ l) : (l.lookup k).isSome = true := by
  induction l with
  | nil => simp at h
  | cons p l ih =>
    obtain ⟨k', v'⟩ := p
    rw [lookup_cons]
    by_cases e : k = k'
    · simp [e]
    · rw [if_neg e]
      rcases List.mem_cons.1 h with h | h
      · cases h; exact absurd rfl e
      · exact ih h

/-- The state s' tells no more than s, its names being σ's. -/
structure Weak (σ : Nat → Nat) (s s' : St) : Prop where
  sl : ∀ p ∈ s'.sl, ∃ y, s.sl.lookup p.1 = some y ∧ A.le y (p.2.ren σ)
  mem : ∀ p ∈ s'.mem, ∃ ob, s.mem.lookup (σ p.1) = some ob ∧ Ob.le ob (p.2.ren σ)
  inj : ∀ p ∈ s'.mem, ∀ q ∈ s'.mem, σ p.1 = σ q.1 → p.1 = q.1
  ids : (∀ p ∈ s'.sl, ∀ m ∈ p.2.ids, (s'.mem.lookup m).isSome = true) ∧ (∀ p ∈ s'.mem, ∀ m ∈ p.2.ids, (s'.mem.lookup m).isSome = true)
  defs : s.defs = [] ∧ s'.defs = []

theorem Ob.le_wr {o o' : Ob} (h : Ob.le o o') (δ : Desc) (g p : Nat) : o'.wr δ g p ↔ o.wr δ g p := by
  cases o <;> cases o' <;> simp only [Ob.le, reduceCtorEq] at h <;> first | exact Iff.rfl | (cases h; exact Iff.rfl) | exact h.elim
theorem Ob.ren_wr (σ : Nat → Nat) (o : Ob) (δ : Desc) (g p : Nat) : (o.ren σ).wr δ g p ↔ o.wr δ g p := by cases o <;> exact Iff.rfl

theorem SimR.weak (h : SimR K ρ s a w) {σ : Nat → Nat} {s' : St} (hw : Weak σ s s') (hent : ∀ m δ, K.ρ0 m = some δ → σ m = m ∧ (s'.mem.lookup m).isSome = true) :
    SimR K (fun m => if (s'.mem.lookup m).isSome then ρ (σ m) else none) s' a w := by
  generalize hρ : (fun m => if (s'.mem.lookup m).isSome then ρ (σ m) else none) = ρ'
  have hin : ∀ m, (s'.mem.lookup m).isSome = true → ρ' m = ρ (σ m) := fun m hm => by rw [← hρ]; simp [hm]
  have hWr : ∀ g o, Wr ρ' s'.mem g o → Wr ρ s.mem g o := by
    rintro g o ⟨m, ob, δ, h1, h2, h3⟩
    obtain ⟨ob2, q1, q2⟩ := hw.mem _ (lookup_mem h1)
    rw [hin m (by rw [h1]; rfl)] at h2
    exact ⟨σ m, ob2, δ, q1, h2, (Ob.le_wr q2 δ g o).1 ((Ob.ren_wr σ ob δ g o).2 h3)⟩
  have hst : Stays (Fs K ρ s.mem) w (Fs K ρ' s'.mem) w := fun g o u x y => ⟨fun z => x (z.imp id (hWr g o)), y⟩
  have hcell : ∀ (x : C) (v : Value), (∀ m ∈ x.ids, (s'.mem.lookup m).isSome = true) → RepC (Fs K ρ s.mem) ρ w (x.ren σ) v → RepC (Fs K ρ' s'.mem) ρ' w x v := fun x v hx hr =>
    (hr.unren (fun m hm => hin m (hx m hm))).stays hst (Ren.le_refl _)
  refine ⟨h.n, fun t x hx => ?_, fun m ob hm => ?_, fun m hm => ?_, fun m m' ob ob' δ δ' g o h1 h2 r1 r2 n1 n2 => ?_, fun g o x => h.wr g o (hWr g o x), h.fr, h.fF, fun m δ hm => ?_, ?_⟩
  · obtain ⟨y, h1, h2⟩ := hw.sl _ (lookup_mem hx)
    exact ((h2 _ _ _ _ (h.slots t y h1)).unren (fun m hm => hin m (hw.ids.1 _ (lookup_mem hx) m hm))).stays hst (Ren.le_refl _)
  · obtain ⟨ob2, q1, q2⟩ := hw.mem _ (lookup_mem hm)
    have hsat := h.mem _ _ q1
    have hρm := hin m (by rw [hm]; rfl)
    have hids := hw.ids.2 _ (lookup_mem hm)
    cases hsat with
    | box x1 x2 x3 x4 =>
      cases ob <;> simp only [Ob.ren, Ob.le, reduceCtorEq] at q2
      rename_i cs δ arr t ds
      refine .box (by rw [hρm]; exact x1) x2 (by rw [x3, q2.1, C.rens_eq]; simp) (fun i x hx => ?_)
      have hi : i < ds.length := by
        rcases Nat.lt_or_ge i ds.length with hh | hh
        · exact hh
        · rw [List.getElem?_eq_none hh] at hx; cases hx
      have hl : cs.length = ds.length := by rw [q2.1, C.rens_eq]; simp
      have hcs : cs[i]? = some cs[i] := List.getElem?_eq_getElem (by omega)
      have := q2.2 i cs[i] (x.ren σ) hcs (by rw [C.rens_eq]; simp [hx])
      exact hcell x _ (fun m hm => hids m (C.mem_idss hx hm)) (this _ _ _ _ (x4 i _ hcs))
    | perm x1 x2 x3 x4 x5 =>
      cases ob <;> simp only [Ob.ren, Ob.le, reduceCtorEq] at q2
      cases q2
      exact .perm (by rw [hρm]; exact x1) x2 x3 x4 x5
    | permNil x1 x2 =>
      cases ob <;> simp only [Ob.ren, Ob.le, reduceCtorEq] at q2
      cases q2
      exact .permNil (by rw [hρm]; exact x1) x2
    | iter x1 x2 =>
      cases ob <;> simp only [Ob.ren, Ob.le, reduceCtorEq] at q2
      cases q2
      exact .iter (by rw [hρm]; exact x1) x2
    | tab x1 x2 x3 x4 =>
      cases ob <;> simp only [Ob.ren, Ob.le, reduceCtorEq] at q2
      cases q2
      exact .tab (by rw [hρm]; exact x1) x2 x3 (fun i v hv => hst _ _ _ (x4 i v hv).1 (x4 i v hv).2)
    | gone =>
      cases ob <;> simp only [Ob.ren, Ob.le, reduceCtorEq] at q2
      exact .gone
  · rw [← hρ]; simp [hm]
  · obtain ⟨o1, p1, p2⟩ := hw.mem _ (lookup_mem h1)
    obtain ⟨o2, q1, q2⟩ := hw.mem _ (lookup_mem h2)
    rw [hin m (by rw [h1]; rfl)] at r1
    rw [hin m' (by rw [h2]; rfl)] at r2
    have := h.dist (σ m) (σ m') o1 o2 δ δ' g o p1 q1 r1 r2 ((Ob.le_wr p2 δ g o).1 ((Ob.ren_wr σ ob δ g o).2 n1)) ((Ob.le_wr q2 δ' g o).1 ((Ob.ren_wr σ ob' δ' g o).2 n2))
    exact hw.inj _ (lookup_mem h1) _ (lookup_mem h2) this
  · rw [hin m (hent m δ hm).2, (hent m δ hm).1]; exact h.ent m δ hm
  · rw [hw.defs.2]
    have := h.defs.1
    rw [hw.defs.1] at this
    exact ⟨this, by simp⟩

end Go.Am
