/- Calls. -/
import Derived.Test.YtihcfphmikebgaaDoorAm10
namespace Go.Am
open Go.RowKit
set_option linter.unusedVariables false
set_option linter.unusedSimpArgs false

variable {G : Gm} {Q : Exit → St → Prop} {ops : Array Oper} {o : Oper} {l : List Oper} {sl : List (Nat × A)} {mem : List (Nat × Ob)} {defs : List (Nat × List C)}
variable {d : Nat} {ty : TypeId} {pos : String} {af : Array Edge} {gd : Option (Nat × Bool)} {K : Ctx} {ρ ρ' : Ren} {w w' : World} {F : Loc} {s : St} {a : Act}

def hasKey (l : List (Nat × Ob)) (m : Nat) : Bool := (lk l m).isSome
theorem hasKey_iff (l : List (Nat × Ob)) (m : Nat) : hasKey l m = true ↔ (l.lookup m).isSome = true := by rw [hasKey, lk_eq]

def renMem (σ : Nat → Nat) (l : List (Nat × Ob)) : List (Nat × Ob) := l.map fun p => (σ p.1, p.2.ren σ)

/-- How a callee's memory lies in the caller's. -/
structure Lent (σ : Nat → Nat) (lm lm' : List (Nat × Ob)) (rm : List (Nat × Ob)) : Prop where
  inj : ∀ m m', hasKey lm' m = true → hasKey lm' m' = true → σ m = σ m' → m = m'
  keys : ∀ m, hasKey lm m = true → hasKey lm' m = true
  has : ∀ m ob, lm.lookup m = some ob → ∃ ob2, (σ m, ob2) ∈ rm ∧ Ob.le ob2 (ob.ren σ)
  ids : ∀ p ∈ lm, ∀ m ∈ p.2.ids, hasKey lm m = true
  only : ∀ p ∈ rm, ∃ m, hasKey lm m = true ∧ σ m = p.1

theorem renMem_lookup {σ : Nat → Nat} {lm : List (Nat × Ob)} (hinj : ∀ m m', hasKey lm m = true → hasKey lm m' = true → σ m = σ m' → m = m') {i : Nat} {ob : Ob} (h : (renMem σ lm).lookup i = some ob) :
    ∃ m ob', i = σ m ∧ ob = ob'.ren σ ∧ lm.lookup m = some ob' := by
  induction lm with
  | nil => simp [renMem] at h
  | cons p lm ih =>
    obtain ⟨m, ob'⟩ := p
    simp only [renMem, List.map_cons] at h
    rw [lookup_cons] at h
    by_cases e : i = σ m
    · rw [if_pos e] at h; cases h
      exact ⟨m, ob', e, rfl, by rw [lookup_cons]; simp⟩
    · rw [if_neg e] at h
      have hk : ∀ q, hasKey lm q = true → hasKey ((m, ob') :: lm) q = true := fun q hq => by
        rw [hasKey_iff] at hq ⊢; rw [lookup_cons]; split <;> simp_all
      obtain ⟨m2, ob2, h1, h2, h3⟩ := ih (fun x y hx hy => hinj x y (hk x hx) (hk y hy)) h
      refine ⟨m2, ob2, h1, h2, ?_⟩
      rw [lookup_cons, if_neg]; exact h3
      intro e2; subst e2; exact e h1
theorem renMem_isSome {σ : Nat → Nat} {lm : List (Nat × Ob)} {m : Nat} (h : hasKey lm m = true) : ((renMem σ lm).lookup (σ m)).isSome = true := by
  rw [hasKey_iff] at h
  cases e : lm.lookup m with
  | none => rw [e] at h; cases h
  | some ob =>
    have := lookup_mem e
    exact lookup_isSome_of_mem (v := ob.ren σ) (List.mem_map.2 ⟨(m, ob), this, rfl⟩)

/-- The caller's view before the call: what the callee may see. -/
theorem ms_of (hr : SimR K ρ s a w) {σ : Nat → Nat} {lm lm' rm : List (Nat × Ob)} (hL : Lent σ lm lm' rm) (hrm : ∀ p ∈ rm, s.mem.lookup p.1 = some p.2) :
    let ρ0 : Ren := fun m => if hasKey lm m then ρ (σ m) else none
    let F0 : Loc := fun g o => K.F g o ∨ (Wr ρ s.mem g o ∧ ¬ Wr ρ0 lm g o)
    MS F0 ρ0 lm w ∧ (∀ g o, Wr ρ0 lm g o → Wr ρ s.mem g o) ∧ (∀ g o, (F0 g o ∨ Wr ρ0 lm g o) ↔ Fs K ρ s.mem g o) := by
  intro ρ0 F0
  have hin : ∀ m, hasKey lm m = true → ρ0 m = ρ (σ m) := fun m hm => by simp [ρ0, hm]
  have hWr : ∀ g o, Wr ρ0 lm g o → Wr ρ s.mem g o := by
    rintro g o ⟨m, ob, δ, h1, h2, h3⟩
    obtain ⟨ob2, q1, q2⟩ := hL.has m ob h1
    rw [hin m ((hasKey_iff lm m).2 (by rw [h1]; rfl))] at h2
    exact ⟨σ m, ob2, δ, hrm _ q1, h2, (Ob.le_wr q2 δ g o).1 ((Ob.ren_wr σ ob δ g o).2 h3)⟩
  have hiff : ∀ g o, (F0 g o ∨ Wr ρ0 lm g o) ↔ Fs K ρ s.mem g o := by
    intro g o
    constructor
    · rintro ((h | h) | h)
      · exact .inl h
      · exact .inr h.1
      · exact .inr (hWr g o h)
    · rintro (h | h)
      · exact .inl (.inl h)
      · by_cases hc : Wr ρ0 lm g o
        · exact .inr hc
        · exact .inl (.inr ⟨h, hc⟩)
  have hFeq : (fun g o => F0 g o ∨ Wr ρ0 lm g o) = Fs K ρ s.mem := by funext g o; exact propext (hiff g o)
  refine ⟨⟨fun m ob hm => ?_, fun m hm => ?_, fun m m' ob ob' δ δ' g o h1 h2 r1 r2 n1 n2 => ?_, fun g o hw => ?_, fun g o hF => ?_⟩, hWr, hiff⟩
  · rw [hFeq]
    obtain ⟨ob2, q1, q2⟩ := hL.has m ob hm
    have hk := (hasKey_iff lm m).2 (by rw [hm]; rfl)
    have hsat := hr.mem _ _ (hrm _ q1)
    have hids : ∀ i ∈ ob.ids, ρ0 i = ρ (σ i) := fun i hi => hin i (hL.ids _ (lookup_mem hm) i hi)
    cases hsat with
    | box x1 x2 x3 x4 =>
      cases ob <;> simp only [Ob.ren, Ob.le, reduceCtorEq] at q2
      rename_i cs δ arr t ds
      refine .box (by rw [hin m hk]; exact x1) x2 (by rw [x3, q2.1, C.rens_eq]; simp) (fun i x hx => ?_)
      have hi : i < ds.length := (List.getElem?_eq_some_iff.1 hx).1
      have hl : cs.length = ds.length := by rw [q2.1, C.rens_eq]; simp
      have hcs : cs[i]? = some cs[i] := List.getElem?_eq_getElem (by omega)
      have := q2.2 i cs[i] (x.ren σ) hcs (by rw [C.rens_eq]; simp [hx])
      exact (this _ _ _ _ (x4 i _ hcs)).unren (fun j hj => hids j (C.mem_idss hx hj))
    | perm x1 x2 x3 x4 x5 =>
      cases ob <;> simp only [Ob.ren, Ob.le, reduceCtorEq] at q2
      cases q2
      exact .perm (by rw [hin m hk]; exact x1) x2 x3 x4 x5
    | permNil x1 x2 =>
      cases ob <;> simp only [Ob.ren, Ob.le, reduceCtorEq] at q2
      cases q2
      exact .permNil (by rw [hin m hk]; exact x1) x2
    | iter x1 x2 =>
      cases ob <;> simp only [Ob.ren, Ob.le, reduceCtorEq] at q2
      cases q2
      exact .iter (by rw [hin m hk]; exact x1) x2
    | tab x1 x2 x3 x4 =>
      cases ob <;> simp only [Ob.ren, Ob.le, reduceCtorEq] at q2
      cases q2
      exact .tab (by rw [hin m hk]; exact x1) x2 x3 x4
    | gone =>
      cases ob <;> simp only [Ob.ren, Ob.le, reduceCtorEq] at q2
      exact .gone
  · have : hasKey lm m = false := by rw [hasKey, lk_eq, hm]; rfl
    simp [ρ0, this]
  · obtain ⟨o1, p1, p2⟩ := hL.has m ob h1
    obtain ⟨o2, q1, q2⟩ := hL.has m' ob' h2
    have k1 := (hasKey_iff lm m).2 (by rw [h1]; rfl)
    have k2 := (hasKey_iff lm m').2 (by rw [h2]; rfl)
    rw [hin m k1] at r1
    rw [hin m' k2] at r2
    have := hr.dist (σ m) (σ m') o1 o2 δ δ' g o (hrm _ p1) (hrm _ q1) r1 r2 ((Ob.le_wr p2 δ g o).1 ((Ob.ren_wr σ ob δ g o).2 n1)) ((Ob.le_wr q2 δ' g o).1 ((Ob.ren_wr σ ob' δ' g o).2 n2))
    exact hL.inj m m' (hL.keys m k1) (hL.keys m' k2) this
  · refine ⟨?_, (hr.wr g o (hWr g o hw)).2.1⟩
    rintro (h | h)
    · exact (hr.wr g o (hWr g o hw)).1 h
    · exact h.2 hw
  · rcases hF with h | h
    · exact Nat.lt_of_lt_of_le (hr.fF g o h) hr.fr.size
    · exact (hr.wr g o h.1).2.1

/-- Behind the call. -/
theorem SimR.called (hr : SimR K ρ s a w) {σ : Nat → Nat} {lm lm' rm : List (Nat × Ob)} (hL : Lent σ lm lm' rm) (hrm : ∀ p ∈ rm, s.mem.lookup p.1 = some p.2)
    (hnew : ∀ m, hasKey lm' m = true → hasKey lm m = false → s.mem.lookup (σ m) = none)
    {res : A} {v : Value} {ρ' : Ren} (hle : Ren.le (fun m => if hasKey lm m then ρ (σ m) else none) ρ')
    (hms : MS (fun g o => K.F g o ∨ (Wr ρ s.mem g o ∧ ¬ Wr (fun m => if hasKey lm m then ρ (σ m) else none) lm g o)) ρ' lm' w')
    (hres : RepA (fun g o => (K.F g o ∨ (Wr ρ s.mem g o ∧ ¬ Wr (fun m => if hasKey lm m then ρ (σ m) else none) lm g o)) ∨ Wr ρ' lm' g o) ρ' w' res v)
    (hgrow : ∀ g o, Wr ρ' lm' g o → Wr (fun m => if hasKey lm m then ρ (σ m) else none) lm g o ∨ w.heap.size ≤ g)
    (hfrm : Frm w (Wr (fun m => if hasKey lm m then ρ (σ m) else none) lm) w') :
    ∃ ρ1, SimR K ρ1 { s with mem := renMem σ lm' ++ s.mem } a w' ∧ RepA (Fs K ρ1 (renMem σ lm' ++ s.mem)) ρ1 w' (res.ren σ) v := by
  obtain ⟨hms0, hWr0, hiff⟩ := ms_of hr hL hrm
  generalize hρ0 : (fun m => if hasKey lm m then ρ (σ m) else none : Ren) = ρ0 at *
  have hin : ∀ m, hasKey lm m = true → ρ0 m = ρ (σ m) := fun m hm => by rw [← hρ0]; simp [hm]
  -- the caller's names
  let ρ1 : Ren := fun i => match lm'.find? (fun p => σ p.1 == i) with | some p => ρ' p.1 | none => ρ i
  have hfind : ∀ m, hasKey lm' m = true → ρ1 (σ m) = ρ' m := by
    intro m hm
    have hsome : (lm'.find? (fun p => σ p.1 == σ m)).isSome = true := by
      rw [hasKey_iff] at hm
      cases e : lm'.lookup m with
      | none => rw [e] at hm; cases hm
      | some ob => rw [List.find?_isSome]; exact ⟨_, lookup_mem e, by simp⟩
    cases e : lm'.find? (fun p => σ p.1 == σ m) with
    | none => rw [e] at hsome; cases hsome
    | some p =>
      have h1 := List.find?_some e
      have h2 := List.mem_of_find?_eq_some e
      simp only [beq_iff_eq] at h1
      have hk : hasKey lm' p.1 = true := (hasKey_iff _ _).2 (lookup_isSome_of_mem (v := p.2) h2)
      have := hL.inj p.1 m hk hm h1
      simp only [ρ1, e, this]
  have hnone : ∀ i, (∀ m, hasKey lm' m = true → σ m ≠ i) → ρ1 i = ρ i := by
    intro i hi
    have : lm'.find? (fun p => σ p.1 == i) = none := by
      rw [List.find?_eq_none]
      intro p hp
      have hk : hasKey lm' p.1 = true := (hasKey_iff _ _).2 (lookup_isSome_of_mem (v := p.2) hp)
      simpa using hi p.1 hk
    simp only [ρ1, this]
  have hle1 : ρ.le ρ1 := by
    intro i δ hi
    by_cases hx : ∃ m, hasKey lm' m = true ∧ σ m = i
    · obtain ⟨m, hm, rfl⟩ := hx
      rw [hfind m hm]
      by_cases hk : hasKey lm m = true
      · exact hle m δ (by rw [hin m hk]; exact hi)
      · have := hr.dom _ (hnew m hm (by simpa using hk))
        rw [this] at hi; cases hi
    · rw [hnone i (fun m hm e => hx ⟨m, hm, e⟩)]; exact hi
  have hre : ∀ m δ, ρ' m = some δ → ρ1 (σ m) = some δ := by
    intro m δ hm
    by_cases hk : hasKey lm' m = true
    · rw [hfind m hk]; exact hm
    · have : lm'.lookup m = none := by
        cases e : lm'.lookup m with
        | none => rfl
        | some ob => exact absurd ((hasKey_iff _ _).2 (by rw [e]; rfl)) hk
      rw [hms.dom m this] at hm; cases hm
  -- looked up behind the call
  have hlk : ∀ i ob, (renMem σ lm' ++ s.mem).lookup i = some ob → (∃ m ob', i = σ m ∧ ob = ob'.ren σ ∧ lm'.lookup m = some ob' ∧ ρ1 i = ρ' m) ∨ ((∀ m, hasKey lm' m = true → σ m ≠ i) ∧ s.mem.lookup i = some ob ∧ ρ1 i = ρ i) := by
    intro i ob h
    rw [lookup_append] at h
    cases e : (renMem σ lm').lookup i with
    | some ob1 =>
      rw [e] at h; simp at h; subst h
      obtain ⟨m, ob', h1, h2, h3⟩ := renMem_lookup hL.inj e
      exact .inl ⟨m, ob', h1, h2, h3, by rw [h1]; exact hfind m ((hasKey_iff _ _).2 (by rw [h3]; rfl))⟩
    | none =>
      rw [e] at h; simp only [Option.none_or] at h
      have hno : ∀ m, hasKey lm' m = true → σ m ≠ i := fun m hm e' => by
        have := renMem_isSome (σ := σ) hm
        rw [e', e] at this; cases this
      exact .inr ⟨hno, h, hnone i hno⟩
  have hWr1 : ∀ g o, Wr ρ1 (renMem σ lm' ++ s.mem) g o → Wr ρ' lm' g o ∨ (∃ i ob δ, (∀ m, hasKey lm' m = true → σ m ≠ i) ∧ s.mem.lookup i = some ob ∧ ρ i = some δ ∧ ob.wr δ g o) := by
    rintro g o ⟨i, ob, δ, h1, h2, h3⟩
    rcases hlk i ob h1 with ⟨m, ob', rfl, rfl, q1, q2⟩ | ⟨q0, q1, q2⟩
    · rw [q2] at h2
      exact .inl ⟨m, ob', δ, q1, h2, (Ob.ren_wr σ ob' δ g o).1 h3⟩
    · rw [q2] at h2
      exact .inr ⟨i, ob, δ, q0, q1, h2, h3⟩
  -- what is not lent isn't written by the callee
  have hapart : ∀ i ob δ g o, (∀ m, hasKey lm' m = true → σ m ≠ i) → s.mem.lookup i = some ob → ρ i = some δ → ob.wr δ g o → ¬ Wr ρ0 lm g o := by
    rintro i ob δ g o h0 h1 h2 h3 ⟨m, ob', δ', q1, q2, q3⟩
    have hk := (hasKey_iff lm m).2 (by rw [q1]; rfl)
    obtain ⟨ob2, p1, p2⟩ := hL.has m ob' q1
    rw [hin m hk] at q2
    exact h0 m (hL.keys m hk) (hr.dist i (σ m) ob ob2 δ δ' g o h1 (hrm _ p1) h2 q2 h3 ((Ob.le_wr p2 δ' g o).1 ((Ob.ren_wr σ ob' δ' g o).2 q3))).symm
  have hst : Stays (Fs K ρ s.mem) w (Fs K ρ1 (renMem σ lm' ++ s.mem)) w' := fun g o u x y => by
    have hlt : g < w.heap.size := World.block_lt_of_cell? w _ y
    refine ⟨?_, hfrm.cell (fun z => x (.inr (hWr0 g o z))) y⟩
    rintro (z | z)
    · exact x (.inl z)
    · rcases hWr1 g o z with z | ⟨i, ob, δ, _, h1, h2, h3⟩
      · rcases hgrow g o z with q | q
        · exact x (.inr (hWr0 g o q))
        · omega
      · exact x (.inr ⟨i, ob, δ, h1, h2, h3⟩)
  have hst' : Stays (fun g o => (K.F g o ∨ (Wr ρ s.mem g o ∧ ¬ Wr ρ0 lm g o)) ∨ Wr ρ' lm' g o) w' (Fs K ρ1 (renMem σ lm' ++ s.mem)) w' := fun g o u x y => by
    refine ⟨?_, y⟩
    rintro (z | z)
    · exact x (.inl (.inl z))
    · rcases hWr1 g o z with z | ⟨i, ob, δ, h0, h1, h2, h3⟩
      · exact x (.inr z)
      · exact x (.inl (.inr ⟨⟨i, ob, δ, h1, h2, h3⟩, hapart i ob δ g o h0 h1 h2 h3⟩))
  have hkk : KeepsKind w w' := fun g arr t fr e => by
    have hg := (Array.getElem?_eq_some_iff.1 e).1
    rcases hfrm.blk g hg with q | ⟨c, c', t', fr, e1, e2, e3, _⟩ | ⟨_, s1, p1, p2, e1, _⟩
    rotate_left 2
    · rw [e] at e1; cases e1
    · exact ⟨arr, q.trans e, rfl⟩
    · rw [e] at e1; cases e1; exact ⟨c', e2, e3⟩
  refine ⟨ρ1, hr.move hle1 hst (fun i ob hi => ?_) (fun i hi => ?_) (fun i i' ob1 ob2 δ1 δ2 g o h1 h2 r1 r2 n1 n2 => ?_) (fun g o hw => ?_) ?_, ?_⟩
  · rcases hlk i ob hi with ⟨m, ob', rfl, rfl, q1, q2⟩ | ⟨q0, q1, q2⟩
    · have hsat := hms.sat m ob' q1
      cases hsat with
      | box x1 x2 x3 x4 =>
        rename_i cs δ arr t
        refine .box (hre m δ x1) x2 (by rw [x3, C.rens_eq]; simp) (fun j x hx => ?_)
        rw [C.rens_eq] at hx
        simp only [List.getElem?_map, Option.map_eq_some_iff] at hx
        obtain ⟨y, hy, rfl⟩ := hx
        exact ((x4 j y hy).reren hre).stays hst' (Ren.le_refl _)
      | perm x1 x2 x3 x4 x5 => exact .perm (hre m _ x1) x2 x3 x4 x5
      | permNil x1 x2 => exact .permNil (hre m _ x1) x2
      | iter x1 x2 => exact .iter (hre m _ x1) x2
      | tab x1 x2 x3 x4 => exact .tab (hre m _ x1) x2 x3 (fun i v hv => hst' _ _ _ (x4 i v hv).1 (x4 i v hv).2)
      | gone => exact .gone
    · refine (hr.mem i ob q1).stays hst hle1 hkk (fun δ hδ hcs => ?_)
      have hlt := (hr.mem i _ q1).blk_lt hcs hδ
      rcases hfrm.blk δ.blk hlt with q | ⟨c, c', t', fr, e1, e2, e3, e4⟩ | ⟨e0, _⟩
      rotate_left 2
      · exact absurd e0 (hapart i _ δ δ.blk 0 q0 q1 hδ (Ob.whole_wr hcs δ 0))
      · exact q
      · rw [e1, e2]
        have : c' = c := by
          apply Array.ext_getElem?
          intro j
          exact e4 j (hapart i _ δ δ.blk j q0 q1 hδ (Ob.whole_wr hcs δ j))
        rw [this]
  · rw [lookup_append] at hi
    simp only [Option.or_eq_none_iff] at hi
    rw [hnone i]
    · exact hr.dom i hi.2
    · intro m hm e
      have := renMem_isSome (σ := σ) hm
      rw [e, hi.1] at this; cases this
  · rcases hlk i ob1 h1 with ⟨m, ob1', rfl, rfl, q1, q2⟩ | ⟨q0, q1, q2⟩ <;> rcases hlk i' ob2 h2 with ⟨m', ob2', rfl, rfl, p1, p2⟩ | ⟨p0, p1, p2⟩
    · rw [q2] at r1; rw [p2] at r2
      rw [hms.dist m m' ob1' ob2' δ1 δ2 g o q1 p1 r1 r2 ((Ob.ren_wr σ ob1' δ1 g o).1 n1) ((Ob.ren_wr σ ob2' δ2 g o).1 n2)]
    · rw [q2] at r1; rw [p2] at r2
      exfalso
      rcases hgrow g o ⟨m, ob1', δ1, q1, r1, (Ob.ren_wr σ ob1' δ1 g o).1 n1⟩ with q | q
      · exact hapart i' ob2 δ2 g o p0 p1 r2 n2 q
      · have := (hr.wr g o ⟨i', ob2, δ2, p1, r2, n2⟩).2.1; omega
    · rw [q2] at r1; rw [p2] at r2
      exfalso
      rcases hgrow g o ⟨m', ob2', δ2, p1, r2, (Ob.ren_wr σ ob2' δ2 g o).1 n2⟩ with q | q
      · exact hapart i ob1 δ1 g o q0 q1 r1 n1 q
      · have := (hr.wr g o ⟨i, ob1, δ1, q1, r1, n1⟩).2.1; omega
    · rw [q2] at r1; rw [p2] at r2
      exact hr.dist i i' ob1 ob2 δ1 δ2 g o q1 p1 r1 r2 n1 n2
  · rcases hWr1 g o hw with z | ⟨i, ob, δ, _, h1, h2, h3⟩
    · have hb := hms.wr g o z
      refine ⟨fun hF => hb.1 (.inl hF), hb.2, ?_⟩
      rcases hgrow g o z with q | q
      · exact (hr.wr g o (hWr0 g o q)).2.2
      · exact .inr (Nat.le_trans hr.fr.size q)
    · have hb := hr.wr g o ⟨i, ob, δ, h1, h2, h3⟩
      exact ⟨hb.1, Nat.lt_of_lt_of_le hb.2.1 hfrm.size, hb.2.2⟩
  · refine hr.fr.trans hfrm (fun g j hg hw => ?_)
    rcases (hr.wr g j (hWr0 g j hw)).2.2 with x | x
    · exact x
    · omega
  · exact (hres.reren hre).stays hst' (Ren.le_refl _)

end Go.Am
