/- Code over abstract states. -/
import Derived.Test.YtihcfphmikebgaaDoorAm6
namespace Go.Am
open Go.RowKit
set_option linter.unusedVariables false

/-- What stays the same throughout a function: the program, the number of slots, the names lent to it. -/
structure Gm where
  P : Program
  n : Nat
  ent : List Nat

def Ctx.fits (K : Ctx) (G : Gm) : Prop := K.n = G.n ∧ ∀ m δ, K.ρ0 m = some δ → m ∈ G.ent

def Post (K : Ctx) (Q : Exit → St → Prop) : Exit → Act → World → Prop := fun e a w => ∃ s, Q e s ∧ Sim K s a w

def AW (G : Gm) (c : Code) (s : St) (Q : Exit → St → Prop) : Prop := ∀ K : Ctx, K.fits G → ∀ a w, Sim K s a w → c.wp G.P (Post K Q) a w

variable {G : Gm} {Q : Exit → St → Prop} {s : St}

def Then (N : St → Prop) (Q : Exit → St → Prop) : Exit → St → Prop
  | .normal, s => N s
  | e, s => Q e s
def InB (id : Nat) (Q : Exit → St → Prop) : Exit → St → Prop
  | .exit id', s => if id' = id then Q .normal s else Q (.exit id') s
  | e, s => Q e s

theorem AW.seq {x y : Code} (h : AW G x s (Then (fun s' => AW G y s' Q) Q)) : AW G (x.seq y) s Q := fun K hK a w hs => by
  refine wp_seq (wp_mono (h K hK a w hs) fun e a' w' he => ?_)
  obtain ⟨s', hq, hs'⟩ := he
  cases e <;> first | exact hq K hK a' w' hs' | exact ⟨s', hq, hs'⟩
theorem AW.block {id : Nat} {c : Code} (h : AW G c s (InB id Q)) : AW G (.block id c) s Q := fun K hK a w hs => by
  refine wp_block (wp_mono (h K hK a w hs) fun e a' w' he => ?_)
  obtain ⟨s', hq, hs'⟩ := he
  cases e with
  | exit id' =>
    simp only [InB] at hq
    simp only [Exit.inBlock]
    split
    · rename_i e; rw [if_pos e] at hq; exact ⟨s', hq, hs'⟩
    · rename_i e; rw [if_neg e] at hq; exact ⟨s', hq, hs'⟩
  | _ => exact ⟨s', hq, hs'⟩
theorem AW.skip (h : Q .normal s) : AW G .skip s Q := fun K _ a w hs => wp_skip ⟨s, h, hs⟩
theorem AW.label {l : Nat} (h : Q .normal s) : AW G (.label l) s Q := fun K _ a w hs => wp_label ⟨s, h, hs⟩
theorem AW.exit {id : Nat} (h : Q (.exit id) s) : AW G (.exit id) s Q := fun K _ a w hs => wp_exit ⟨s, h, hs⟩
theorem AW.ret (h : Q .ret s) : AW G .ret s Q := fun K _ a w hs => wp_ret ⟨s, h, hs⟩
theorem AW.mono {c : Code} {Q' : Exit → St → Prop} (h : AW G c s Q) (hq : ∀ e s', Q e s' → Q' e s') : AW G c s Q' := fun K hK a w hs =>
  wp_mono (h K hK a w hs) fun e a' w' ⟨s', h1, h2⟩ => ⟨s', hq e s' h1, h2⟩

abbrev A.bool (b : Bool) : A := .c (.d (.v (.bool b)))
abbrev A.i64 (n : Int) : A := .c (.d (.v (.int .i64 n)))
abbrev A.val (v : Value) : A := .c (.d (.v v))

theorem RepA.val {F : Loc} {ρ : Ren} {w : World} {v u : Value} (h : RepA F ρ w (A.val v) u) : u = v := by
  cases h with | c h => cases h with | d h => cases h; rfl

theorem AW.cond {t : Nat} {b : Bool} {x y : Code} (hl : s.sl.lookup t = some (A.bool b)) (h1 : b = true → AW G x s Q) (h2 : b = false → AW G y s Q) : AW G (.cond (.tmp t) x y) s Q := fun K hK a w hs => by
  have hs' := hs
  obtain ⟨ρ, hr⟩ := hs'
  have hv : a.eval (.tmp t) = .bool b := (hr.slots t _ hl).val
  cases b with
  | true => exact wp_cond_true hv (h1 rfl K hK a w hs)
  | false => exact wp_cond_false hv (h2 rfl K hK a w hs)

/-- The state is told less of, by other names. -/
structure Weakens (G : Gm) (s s' : St) : Prop where
  out : ∃ σ, Weak σ s s' ∧ ∀ m ∈ G.ent, σ m = m ∧ (s'.mem.lookup m).isSome = true
theorem Sim.weakens {K : Ctx} {a : Act} {w : World} {s' : St} (h : Sim K s a w) (hK : K.fits G) (hw : Weakens G s s') : Sim K s' a w := by
  obtain ⟨ρ, hr⟩ := h
  obtain ⟨σ, h1, h2⟩ := hw.out
  exact ⟨_, hr.weak h1 (fun m δ hm => h2 m (hK.2 m δ hm))⟩
theorem AW.weaken {c : Code} {s' : St} (hw : Weakens G s s') (h : AW G c s' Q) : AW G c s Q := fun K hK a w hs => h K hK a w (hs.weakens hK hw)

theorem least_of {p : Nat → Prop} (h : ∃ n, p n) : ∃ n, p n ∧ ∀ m, p m → n ≤ m := by
  obtain ⟨n, hn⟩ := h
  induction n using Nat.strongRecOn with
  | _ n ih =>
    by_cases h : ∃ m, m < n ∧ p m
    · obtain ⟨m, h1, h2⟩ := h; exact ih m h1 h2
    · exact ⟨n, hn, fun m hm => by
        rcases Nat.lt_or_ge m n with h' | h'
        · exact absurd ⟨m, h', hm⟩ h
        · exact h'⟩

theorem AW.loop {ι : Type} (I : ι → St) (μ : ι → Nat) {c : Code} (i0 : ι) (h0 : Weakens G s (I i0))
    (round : ∀ i, AW G c (I i) (Then (fun s' => ∃ i', μ i' < μ i ∧ Weakens G s' (I i')) Q)) : AW G (.loop c) s Q := fun K hK a w hs => by
  have hs0 := hs.weakens hK h0
  let p : Act → World → Nat → Prop := fun a w n => ∃ i, μ i = n ∧ Sim K (I i) a w
  let μ' : Act → World → Nat := fun a w => Classical.epsilon fun n => p a w n ∧ ∀ m, p a w m → n ≤ m
  have hμ : ∀ a w, (∃ i, Sim K (I i) a w) → p a w (μ' a w) ∧ ∀ m, p a w m → μ' a w ≤ m := fun a w ⟨i, hi⟩ =>
    Classical.epsilon_spec (p := fun n => p a w n ∧ ∀ m, p a w m → n ≤ m) (least_of ⟨μ i, i, rfl, hi⟩)
  refine wp_loop (fun a w => ∃ i, Sim K (I i) a w) μ' ⟨i0, hs0⟩ fun a w hI => ?_
  obtain ⟨⟨i, hi, hsi⟩, hmin⟩ := hμ a w hI
  refine wp_mono (round i K hK a w hsi) fun e a' w' ⟨s', hq, hs'⟩ => ?_
  cases e <;> first | exact ⟨s', hq, hs'⟩ | skip
  obtain ⟨i', hlt, hw⟩ := hq
  have hsi' := hs'.weakens hK hw
  have := (hμ a' w' ⟨i', hsi'⟩).2 (μ i') ⟨i', rfl, hsi'⟩
  exact ⟨⟨i', hsi'⟩, by omega⟩

/-! Operations -/

structure Tr where
  rs : List (Nat × A)
  rm : List (Nat × Ob)
  ws : List (Nat × A)
  wm : List (Nat × Ob)

def St.app (s : St) (τ : Tr) : St := { s with sl := τ.ws ++ s.sl, mem := τ.wm ++ s.mem }
structure Tr.ok (τ : Tr) (s : St) : Prop where
  rs : ∀ p ∈ τ.rs, s.sl.lookup p.1 = some p.2
  rm : ∀ p ∈ τ.rm, s.mem.lookup p.1 = some p.2
  wm : ∀ p ∈ τ.wm, p.1 ∈ τ.rm.map (·.1) ∨ s.mem.lookup p.1 = none

def OpOk (G : Gm) (o : Oper) (τ : Tr) : Prop :=
  ∀ K : Ctx, K.fits G → ∀ s a w, Sim K s a w → τ.ok s → ∀ (next : Act → World → Prop) (Q : Exit → Act → World → Prop), (∀ a' w', Sim K (s.app τ) a' w' → next a' w') → o.wp G.P a w next Q

/-- An operation of a region, its guard with it. -/
def StepOk (G : Gm) (ops : Array Oper) (o : Oper) (τ : Tr) : Prop :=
  ∀ K : Ctx, K.fits G → ∀ s a w, Sim K s a w → τ.ok s → ∀ (next : Act → World → Prop) (Q : Exit → Act → World → Prop), (∀ a' w', Sim K (s.app τ) a' w' → next a' w') →
    if Region.wanted o (yielded ops a.tmps) then o.wp G.P a w next Q ∨ (o.asks G.P a w ∧ LetsOut Q) else next (a.put o.dst undef) w

theorem StepOk.plain {ops : Array Oper} {o : Oper} {τ : Tr} (hg : o.guard = none) (h : OpOk G o τ) : StepOk G ops o τ := fun K hK s a w hs ht next Q hn => by
  rw [if_pos (by simp [Region.wanted, hg])]
  exact .inl (h K hK s a w hs ht next Q hn)

theorem yielded_of {ops : Array Oper} {K : Ctx} {s : St} {a : Act} {w : World} {j d : Nat} {b : Bool} (hs : Sim K s a w) (hd : ((ops[j]?).bind (·.dst)) = some d) (hn : d < K.n) (hl : s.sl.lookup d = some (A.bool b)) :
    yielded ops a.tmps j = some b := by
  obtain ⟨ρ, hr⟩ := hs
  have hv := (hr.slots d _ hl).val
  have hlt : d < a.tmps.size := by rw [hr.n]; exact hn
  have : a.tmps[d]? = some (.bool b) := by
    rw [Array.getD_eq_getD_getElem?, Array.getElem?_eq_getElem hlt] at hv
    rw [Array.getElem?_eq_getElem hlt]
    simpa using hv
  simp [yielded, hd, this]

theorem StepOk.on {ops : Array Oper} {o : Oper} {τ : Tr} {j d : Nat} {b : Bool} (hg : o.guard = some (j, b)) (hd : ((ops[j]?).bind (·.dst)) = some d) (hn : d < G.n) (hr : (d, A.bool b) ∈ τ.rs) (h : OpOk G o τ) :
    StepOk G ops o τ := fun K hK s a w hs ht next Q hnx => by
  have hy := yielded_of hs hd (by rw [hK.1]; exact hn) (ht.rs _ hr)
  rw [if_pos (by simp [Region.wanted, hg, hy])]
  exact .inl (h K hK s a w hs ht next Q hnx)

theorem StepOk.off {ops : Array Oper} {o : Oper} {j d : Nat} {b c : Bool} (hg : o.guard = some (j, b)) (hd : ((ops[j]?).bind (·.dst)) = some d) (hn : d < G.n) (hne : c ≠ b)
    {x : Nat} (hx : o.dst = some x) (hxn : x < G.n) : StepOk G ops o ⟨[(d, A.bool c)], [], [(x, .tup [])], []⟩ := fun K hK s a w hs ht next Q hnx => by
  have hy := yielded_of hs hd (by rw [hK.1]; exact hn) (ht.rs (d, A.bool c) (by simp))
  rw [if_neg (by simp [Region.wanted, hg, hy, hne])]
  obtain ⟨ρ, hr⟩ := hs
  rw [hx]
  exact hnx _ _ ⟨ρ, hr.put (by rw [hK.1]; exact hxn) (.tup (by simp) (by simp))⟩

theorem StepOk.off0 {ops : Array Oper} {o : Oper} {j d : Nat} {b c : Bool} (hg : o.guard = some (j, b)) (hd : ((ops[j]?).bind (·.dst)) = some d) (hn : d < G.n) (hne : c ≠ b)
    (hx : o.dst = none) : StepOk G ops o ⟨[(d, A.bool c)], [], [], []⟩ := fun K hK s a w hs ht next Q hnx => by
  have hy := yielded_of hs hd (by rw [hK.1]; exact hn) (ht.rs (d, A.bool c) (by simp))
  rw [if_neg (by simp [Region.wanted, hg, hy, hne])]
  rw [hx]
  exact hnx _ _ hs

/-- A region's operations in the text's order. -/
def AL (G : Gm) (ops : Array Oper) (l : List Oper) (s : St) (Q : Exit → St → Prop) : Prop := ∀ K : Ctx, K.fits G → ∀ a w, Sim K s a w → wpList G.P ops (Post K Q) l a w
theorem AL.nil {ops : Array Oper} (h : Q .normal s) : AL G ops [] s Q := fun K _ a w hs => wpList_nil ⟨s, h, hs⟩
theorem AL.step {ops : Array Oper} {o : Oper} {l : List Oper} {τ : Tr} (h : StepOk G ops o τ) (ht : τ.ok s) (hk : AL G ops l (s.app τ) Q) : AL G ops (o :: l) s Q := fun K hK a w hs => by
  unfold wpList
  exact h K hK s a w hs ht _ _ fun a' w' hs' => hk K hK a' w' hs'
theorem AW.region {id : Nat} {l : List Oper} (h : AL G l.toArray l s Q) : AW G (.region id l.toArray false) s Q := fun K hK a w hs => wp_region_lit (h K hK a w hs)

/-! Any order -/

/-- The two states tell the same. -/
structure St.like (s s' : St) : Prop where
  sl : ∀ t, s.sl.lookup t = s'.sl.lookup t
  mem : ∀ m, s.mem.lookup m = s'.mem.lookup m
  defs : s.defs = s'.defs
theorem St.like.refl (s : St) : s.like s := ⟨fun _ => rfl, fun _ => rfl, rfl⟩
theorem St.like.trans {a b c : St} (h : a.like b) (k : b.like c) : a.like c := ⟨fun t => (h.sl t).trans (k.sl t), fun t => (h.mem t).trans (k.mem t), h.defs.trans k.defs⟩
theorem St.like.symm {a b : St} (h : a.like b) : b.like a := ⟨fun t => (h.sl t).symm, fun t => (h.mem t).symm, h.defs.symm⟩

theorem Sim.like {K : Ctx} {a : Act} {w : World} {s s' : St} (h : Sim K s a w) (e : s.like s') : Sim K s' a w := by
  obtain ⟨ρ, hr⟩ := h
  have hWr : Wr ρ s.mem = Wr ρ s'.mem := by
    funext g o
    simp only [Wr, e.mem]
  have hF : Fs K ρ s.mem = Fs K ρ s'.mem := by unfold Fs; rw [hWr]
  refine ⟨ρ, hr.n, fun t x hx => by rw [← hF]; exact hr.slots t x (by rw [e.sl]; exact hx), fun m ob hm => by rw [← hF]; exact hr.mem m ob (by rw [e.mem]; exact hm),
    fun m hm => hr.dom m (by rw [e.mem]; exact hm), ?_, fun g o hw => hr.wr g o (by rw [hWr]; exact hw), hr.fr, hr.fF, hr.ent, ?_⟩
  · intro m m' ob ob' δ δ' g o h1 h2
    exact hr.dist m m' ob ob' δ δ' g o (by rw [e.mem]; exact h1) (by rw [e.mem]; exact h2)
  · rw [← hF, ← e.defs]; exact hr.defs

theorem lookup_append {β : Type} (l1 l2 : List (Nat × β)) (k : Nat) : (l1 ++ l2).lookup k = ((l1.lookup k).or (l2.lookup k)) := by
  induction l1 with
  | nil => simp
  | cons p l ih =>
    obtain ⟨k', v⟩ := p
    rw [List.cons_append, lookup_cons, lookup_cons]
    split
    · simp
    · exact ih
theorem lookup_none_of {β : Type} {l : List (Nat × β)} {k : Nat} (h : k ∉ l.map (·.1)) : l.lookup k = none := by
  induction l with
  | nil => rfl
  | cons p l ih =>
    obtain ⟨k', v⟩ := p
    simp only [List.map_cons, List.mem_cons, not_or] at h
    rw [lookup_cons, if_neg h.1]; exact ih h.2
theorem lookup_key {β : Type} {l : List (Nat × β)} {k : Nat} {v : β} (h : l.lookup k = some v) : k ∈ l.map (·.1) := by
  have := lookup_mem h
  exact List.mem_map.2 ⟨(k, v), this, rfl⟩

def disj (a b : List Nat) : Bool := a.all fun x => !b.contains x
theorem disj_spec {a b : List Nat} (h : disj a b = true) : ∀ x, x ∈ a → x ∉ b := by
  intro x hx hb
  have := List.all_eq_true.1 h x hx
  simp at this
  exact this hb

/-- The two transactions don't touch each other. -/
def Tr.apart (τ τ' : Tr) : Bool :=
  disj (τ.ws.map (·.1)) (τ'.rs.map (·.1) ++ τ'.ws.map (·.1)) && disj (τ'.ws.map (·.1)) (τ.rs.map (·.1)) &&
  disj (τ.wm.map (·.1)) (τ'.rm.map (·.1) ++ τ'.wm.map (·.1)) && disj (τ'.wm.map (·.1)) (τ.rm.map (·.1))

theorem Tr.ok_of_app {τ τ' : Tr} (h : τ.apart τ' = true) (hk : τ'.ok (s.app τ)) : τ'.ok s := by
  simp only [Tr.apart, Bool.and_eq_true] at h
  obtain ⟨⟨⟨h1, h2⟩, h3⟩, h4⟩ := h
  refine ⟨fun p hp => ?_, fun p hp => ?_, fun p hp => ?_⟩
  · have := hk.rs p hp
    simp only [St.app, lookup_append] at this
    rw [lookup_none_of] at this
    · simpa using this
    · intro hx; exact disj_spec h1 _ hx (List.mem_append.2 (.inl (List.mem_map.2 ⟨p, hp, rfl⟩)))
  · have := hk.rm p hp
    simp only [St.app, lookup_append] at this
    rw [lookup_none_of] at this
    · simpa using this
    · intro hx; exact disj_spec h3 _ hx (List.mem_append.2 (.inl (List.mem_map.2 ⟨p, hp, rfl⟩)))
  · refine (hk.wm p hp).imp id fun this => ?_
    simp only [St.app, lookup_append] at this
    rw [lookup_none_of] at this
    · simpa using this
    · intro hx; exact disj_spec h3 _ hx (List.mem_append.2 (.inr (List.mem_map.2 ⟨p, hp, rfl⟩)))

theorem Tr.ok_app {τ τ' : Tr} (h : τ.apart τ' = true) (hk : τ.ok s) : τ.ok (s.app τ') := by
  simp only [Tr.apart, Bool.and_eq_true] at h
  obtain ⟨⟨⟨h1, h2⟩, h3⟩, h4⟩ := h
  refine ⟨fun p hp => ?_, fun p hp => ?_, fun p hp => ?_⟩
  · simp only [St.app, lookup_append]
    rw [lookup_none_of]
    · simpa using hk.rs p hp
    · intro hx; exact disj_spec h2 _ hx (List.mem_map.2 ⟨p, hp, rfl⟩)
  · simp only [St.app, lookup_append]
    rw [lookup_none_of]
    · simpa using hk.rm p hp
    · intro hx; exact disj_spec h4 _ hx (List.mem_map.2 ⟨p, hp, rfl⟩)
  · refine (hk.wm p hp).imp id fun this => ?_
    simp only [St.app, lookup_append]
    rw [lookup_none_of]
    · simpa using this
    · intro hx
      exact disj_spec h3 p.1 (List.mem_map.2 ⟨p, hp, rfl⟩) (List.mem_append.2 (.inr hx))

theorem Tr.swap {τ τ' : Tr} (h : τ.apart τ' = true) : ((s.app τ).app τ').like ((s.app τ').app τ) := by
  simp only [Tr.apart, Bool.and_eq_true] at h
  obtain ⟨⟨⟨h1, h2⟩, h3⟩, h4⟩ := h
  refine ⟨fun t => ?_, fun t => ?_, rfl⟩
  · simp only [St.app, lookup_append]
    cases e1 : τ'.ws.lookup t with
    | none => simp
    | some x =>
      have : τ.ws.lookup t = none := lookup_none_of fun hx => disj_spec h1 _ hx (List.mem_append.2 (.inr (lookup_key e1)))
      simp [this]
  · simp only [St.app, lookup_append]
    cases e1 : τ'.wm.lookup t with
    | none => simp
    | some x =>
      have : τ.wm.lookup t = none := lookup_none_of fun hx => disj_spec h3 _ hx (List.mem_append.2 (.inr (lookup_key e1)))
      simp [this]

theorem Tr.ok_like {τ : Tr} {s s' : St} (e : s.like s') (h : τ.ok s) : τ.ok s' :=
  ⟨fun p hp => by rw [← e.sl]; exact h.rs p hp, fun p hp => by rw [← e.mem]; exact h.rm p hp, fun p hp => (h.wm p hp).imp id fun x => by rw [← e.mem]; exact x⟩
theorem St.like.app {s s' : St} (e : s.like s') (τ : Tr) : (s.app τ).like (s'.app τ) :=
  ⟨fun t => by simp only [St.app, lookup_append, e.sl], fun t => by simp only [St.app, lookup_append, e.mem], e.defs⟩

/-- One behind the other, all fit. -/
def Chain : List Tr → St → St → Prop
  | [], s, s' => s.like s'
  | τ :: l, s, s' => τ.ok s ∧ Chain l (s.app τ) s'
theorem Chain.like : ∀ {l : List Tr} {s s1 s' : St}, Chain l s s' → s.like s1 → Chain l s1 s'
  | [], _, _, _, h, e => e.symm.trans h
  | _ :: _, _, _, _, h, e => ⟨Tr.ok_like e h.1, Chain.like h.2 (e.app _)⟩

/-- What is apart from all ahead of it may go first. -/
theorem Chain.front : ∀ {l1 : List Tr} {τ : Tr} {l2 : List Tr} {s s' : St}, (∀ x ∈ l1, x.apart τ = true) → Chain (l1 ++ τ :: l2) s s' → τ.ok s ∧ Chain (l1 ++ l2) (s.app τ) s'
  | [], _, _, _, _, _, h => h
  | x :: l1, τ, l2, s, s', ha, h => by
    obtain ⟨hx, h⟩ := h
    obtain ⟨h1, h2⟩ := Chain.front (fun y hy => ha y (List.mem_cons_of_mem _ hy)) h
    have hap := ha x (by simp)
    exact ⟨Tr.ok_of_app hap h1, Tr.ok_app hap hx, h2.like (Tr.swap hap)⟩

/-- Which operations stand ahead of which, by the edges that always bind. -/
inductive Pred (ops : Array Oper) : Nat → Nat → Prop where
  | one {i j : Nat} {o : Oper} {e : Edge} (h : ops[j]? = some o) (he : e ∈ o.after) (hb : Region.binds .any e = true) (hi : e.on = i) : Pred ops i j
  | more {i j : Nat} {o : Oper} {e : Edge} (h : ops[j]? = some o) (he : e ∈ o.after) (hb : Region.binds .any e = true) (hi : Pred ops i e.on) : Pred ops i j

def maskOf (acc : List Nat) (es : List Edge) : Nat := es.foldl (fun s e => if Region.binds .any e then s ||| 2 ^ e.on ||| acc.getD e.on 0 else s) 0
def masks : List Oper → List Nat → List Nat
  | [], acc => acc
  | o :: l, acc => masks l (acc ++ [maskOf acc o.after.toList])

theorem maskOf_bit (acc : List Nat) : ∀ (es : List Edge) (s0 i : Nat), (es.foldl (fun s e => if Region.binds .any e then s ||| 2 ^ e.on ||| acc.getD e.on 0 else s) s0).testBit i = true →
    s0.testBit i = true ∨ ∃ e ∈ es, Region.binds .any e = true ∧ (e.on = i ∨ (acc.getD e.on 0).testBit i = true) := by
  intro es
  induction es with
  | nil => intro s0 i h; exact .inl h
  | cons e es ih =>
    intro s0 i h
    simp only [List.foldl_cons] at h
    rcases ih _ i h with h | ⟨e', h1, h2, h3⟩
    · by_cases hb : Region.binds .any e = true
      · rw [if_pos hb] at h
        simp only [Nat.testBit_or, Nat.testBit_two_pow, Bool.or_eq_true, decide_eq_true_eq] at h
        rcases h with (h | h) | h
        · exact .inl h
        · exact .inr ⟨e, by simp, hb, .inl h⟩
        · exact .inr ⟨e, by simp, hb, .inr h⟩
      · rw [if_neg hb] at h; exact .inl h
    · exact .inr ⟨e', List.mem_cons_of_mem _ h1, h2, h3⟩

theorem masks_spec (ops : Array Oper) : ∀ (l : List Oper) (acc : List Nat), (∀ k o, l[k]? = some o → ops[acc.length + k]? = some o) → (∀ j i, (acc.getD j 0).testBit i = true → Pred ops i j) →
    ∀ j i, ((masks l acc).getD j 0).testBit i = true → Pred ops i j := by
  intro l
  induction l with
  | nil => intro acc _ h; exact h
  | cons o l ih =>
    intro acc hl h
    refine ih _ (fun k o' hk => ?_) (fun j i hj => ?_)
    · have := hl (k + 1) o' (by simpa using hk)
      simpa [Nat.add_assoc, Nat.add_comm 1 k] using this
    · rcases Nat.lt_or_ge j acc.length with hlt | hge
      · refine h j i ?_
        rwa [List.getD_eq_getElem?_getD, List.getElem?_append_left hlt, ← List.getD_eq_getElem?_getD] at hj
      · rw [List.getD_eq_getElem?_getD, List.getElem?_append_right hge] at hj
        by_cases e : j = acc.length
        · subst e
          simp only [Nat.sub_self, List.getElem?_cons_zero, Option.getD_some] at hj
          rcases maskOf_bit acc _ 0 i hj with hz | ⟨ed, h1, h2, h3⟩
          · simp at hz
          · have ho : ops[acc.length]? = some o := by simpa using hl 0 o rfl
            rcases h3 with h3 | h3
            · exact .one ho (by simpa using h1) h2 h3
            · exact .more ho (by simpa using h1) h2 (h _ _ h3)
        · have : ([maskOf acc o.after.toList] : List Nat)[j - acc.length]? = none := List.getElem?_eq_none (by simp; omega)
          rw [this] at hj; simp at hj

/-- Each edge that binds goes back; each pair that isn't ordered is apart. -/
def backOk (l : List Oper) : Bool := (l.zipIdx.all fun (o, j) => o.after.toList.all fun e => !Region.binds .any e || decide (e.on < j))
def pairsOk (ms : List Nat) : List (Tr × Nat) → Bool
  | [] => true
  | (τ, i) :: l => (l.all fun (τ', j) => (ms.getD j 0).testBit i || τ.apart τ') && pairsOk ms l

theorem pairsOk_spec {ms : List Nat} : ∀ {l1 : List (Tr × Nat)} {x : Tr × Nat} {l2 : List (Tr × Nat)}, pairsOk ms (l1 ++ x :: l2) = true → ∀ y ∈ l1, (ms.getD x.2 0).testBit y.2 = true ∨ y.1.apart x.1 = true
  | [], _, _, _, y, hy => by simp at hy
  | (τ, i) :: l1, x, l2, h, y, hy => by
    simp only [List.cons_append, pairsOk, Bool.and_eq_true] at h
    rcases List.mem_cons.1 hy with rfl | hy
    · have := List.all_eq_true.1 h.1 x (by simp)
      simpa using this
    · exact pairsOk_spec h.2 y hy
theorem pairsOk_drop {ms : List Nat} : ∀ {l1 : List (Tr × Nat)} {x : Tr × Nat} {l2 : List (Tr × Nat)}, pairsOk ms (l1 ++ x :: l2) = true → pairsOk ms (l1 ++ l2) = true
  | [], x, _, h => by obtain ⟨τ, i⟩ := x; simp only [List.nil_append, pairsOk, Bool.and_eq_true] at h; exact h.2
  | (τ, i) :: l1, x, l2, h => by
    simp only [List.cons_append, pairsOk, Bool.and_eq_true] at h ⊢
    refine ⟨List.all_eq_true.2 fun z hz => List.all_eq_true.1 h.1 z ?_, pairsOk_drop h.2⟩
    rcases List.mem_append.1 hz with hz | hz
    · exact List.mem_append.2 (.inl hz)
    · exact List.mem_append.2 (.inr (List.mem_cons_of_mem _ hz))

theorem any_order (ops : Array Oper) (hback : ∀ (j : Nat) (o : Oper) (e : Edge), ops[j]? = some o → e ∈ o.after → Region.binds .any e = true → e.on < j)
    (ms : List Nat) (hms : ∀ j i, (ms.getD j 0).testBit i = true → Pred ops i j) (s' : St) (K : Ctx) (hK : K.fits G) (Q : Exit → Act → World → Prop) (hQ : ∀ a w, Sim K s' a w → Q .normal a w) :
    ∀ (fuel : Nat) (listed : Array Bool) (L : List (Tr × Nat)) (s : St) (a : Act) (w : World), L.length = fuel → listed.size = ops.size →
      (∀ i, i < ops.size → (listed.getD i true = false ↔ i ∈ L.map (·.2))) → (∀ x ∈ L, x.2 < ops.size) → (L.map (·.2)).Pairwise (· < ·) →
      (∀ (j : Nat) (o : Oper) (e : Edge), ops[j]? = some o → listed.getD j true = true → e ∈ o.after → Region.binds .any e = true → listed.getD e.on true = true) →
      (∀ x ∈ L, ∀ o, ops[x.2]? = some o → StepOk G ops o x.1) → pairsOk ms L = true → Chain (L.map (·.1)) s s' → Sim K s a w → wpAny G.P .any ops Q fuel listed a w := by
  intro fuel
  induction fuel with
  | zero =>
    intro listed L s a w hlen hsz hli hlt _ _ _ _ hch hs
    have hL : L = [] := List.eq_nil_of_length_eq_zero hlen
    subst hL
    refine ⟨?_, hQ a w (hs.like hch)⟩
    unfold Region.ready
    rw [List.filter_eq_nil_iff]
    intro i hi
    have := hli i (List.mem_range.1 hi)
    simp only [List.map_nil, List.not_mem_nil, iff_false, Bool.not_eq_false] at this
    simp [this]
  | succ fuel ih =>
    intro listed L s a w hlen hsz hli hlt hsort hdown hok hpairs hch hs
    have hready : ∀ i, i ∈ Region.ready .any ops listed → i < ops.size ∧ listed.getD i true = false ∧ ∀ o, ops[i]? = some o → ∀ e ∈ o.after, Region.binds .any e = true → listed.getD e.on false = true := by
      intro i hi
      unfold Region.ready at hi
      rw [List.mem_filter] at hi
      obtain ⟨h1, h2⟩ := hi
      have h1 := List.mem_range.1 h1
      simp only [Bool.and_eq_true, Bool.not_eq_true'] at h2
      refine ⟨h1, h2.1, fun o ho e he hb => ?_⟩
      have h3 := h2.2
      rw [ho] at h3
      simp only [Option.map_some, Option.getD_some] at h3
      have h4 := Array.all_eq_true_iff_forall_mem.1 h3 e he
      simpa [hb] using h4
    refine ⟨fun hnil => ?_, fun i hi => ?_⟩
    · -- the first that is left is ready
      exfalso
      cases L with
      | nil => simp at hlen
      | cons x L =>
        have hx := hlt x (by simp)
        have : x.2 ∈ Region.ready .any ops listed := by
          unfold Region.ready
          rw [List.mem_filter]
          refine ⟨List.mem_range.2 hx, ?_⟩
          have hl : listed.getD x.2 true = false := (hli x.2 hx).2 (by simp)
          have ho : ops[x.2]? = some ops[x.2] := Array.getElem?_eq_getElem hx
          rw [ho]
          simp only [hl, Bool.not_false, Option.map_some, Option.getD_some, Bool.true_and]
          refine Array.all_eq_true_iff_forall_mem.2 fun e he => ?_
          by_cases hb : Region.binds .any e = true
          · have hlt' := hback x.2 _ e ho he hb
            have hnot : e.on ∉ (x :: L).map (·.2) := by
              intro hm
              simp only [List.map_cons, List.mem_cons] at hm
              rcases hm with hm | hm
              · omega
              · simp only [List.map_cons, List.pairwise_cons] at hsort
                have := hsort.1 _ hm
                omega
            have h5 : listed.getD e.on true = true := by
              cases h6 : listed.getD e.on true with
              | true => rfl
              | false => exact absurd ((hli e.on (by omega)).1 h6) hnot
            have : listed.getD e.on false = true := by
              rw [Array.getD_eq_getD_getElem?, Array.getElem?_eq_getElem (by omega : e.on < listed.size)] at h5 ⊢
              simpa using h5
            simp [hb, this]
          · simp [hb]
        rw [hnil] at this; simp at this
    · obtain ⟨hi1, hi2, hi3⟩ := hready i hi
      have hmem := (hli i hi1).1 hi2
      obtain ⟨x, hx, hxi⟩ := List.mem_map.1 hmem
      obtain ⟨L1, L2, rfl⟩ := List.append_of_mem hx
      have ho : ops[i]? = some ops[i] := Array.getElem?_eq_getElem hi1
      -- all that stand ahead of it in the text and are left are apart
      have hpred : ∀ k j, Pred ops k j → listed.getD j true = true → listed.getD k true = true := by
        intro k j hp
        induction hp with
        | one h he hb hi => subst hi; exact fun hj => hdown _ _ _ h hj he hb
        | more h he hb _ ih => exact fun hj => ih (hdown _ _ _ h hj he hb)
      have hnotpred : ∀ y ∈ L1, ¬ Pred ops y.2 i := by
        intro y hy hp
        have hyl : listed.getD y.2 true = false := (hli y.2 (hlt y (by simp [hy]))).2 (by simp only [List.map_append, List.mem_append]; exact .inl (List.mem_map.2 ⟨y, hy, rfl⟩))
        have hon : ∀ (e : Edge), e ∈ ops[i].after → Region.binds .any e = true → listed.getD e.on true = true := by
          intro e he hb
          have := hi3 _ ho e he hb
          have hlt' := hback i _ e ho he hb
          rw [Array.getD_eq_getD_getElem?, Array.getElem?_eq_getElem (by omega : e.on < listed.size)] at this ⊢
          simpa using this
        cases hp with
        | one h he hb hi' =>
          rw [ho] at h; cases h
          have := hon _ he hb
          rw [hi', hyl] at this; cases this
        | more h he hb hp' =>
          rw [ho] at h; cases h
          have := hpred _ _ hp' (hon _ he hb)
          rw [hyl] at this; cases this
      have hap : ∀ y ∈ L1, y.1.apart x.1 = true := by
        intro y hy
        rcases pairsOk_spec hpairs y hy with h | h
        · exact absurd (hxi ▸ hms _ _ h) (hnotpred y hy)
        · exact h
      have hch' : Chain (L1.map (·.1) ++ x.1 :: L2.map (·.1)) s s' := by simpa using hch
      obtain ⟨hxok, hrest⟩ := Chain.front (fun z hz => by obtain ⟨y, hy, rfl⟩ := List.mem_map.1 hz; exact hap y hy) hch'
      unfold wpOp
      rw [ho]
      simp only
      have hstep := hok x (by simp) ops[i] (by rw [hxi]; exact ho)
      refine hstep K hK s a w hs hxok _ _ fun a' w' hs' => ?_
      have hsub : ∀ z, z ∈ L1 ++ L2 → z ∈ L1 ++ x :: L2 := fun z hz => by
        rcases List.mem_append.1 hz with h | h
        · exact List.mem_append.2 (.inl h)
        · exact List.mem_append.2 (.inr (List.mem_cons_of_mem _ h))
      have hsort' : ((L1 ++ L2).map (·.2)).Pairwise (· < ·) := by
        refine List.Pairwise.sublist ?_ hsort
        simp only [List.map_append, List.map_cons]
        exact List.Sublist.append_left (List.sublist_cons_self _ _) _
      have hnd : ∀ z ∈ L1 ++ L2, z.2 ≠ i := by
        intro z hz hzi
        simp only [List.map_append, List.map_cons, List.pairwise_append, List.pairwise_cons] at hsort
        rcases List.mem_append.1 hz with h | h
        · have := hsort.2.2 z.2 (List.mem_map.2 ⟨z, h, rfl⟩) x.2 (by simp); omega
        · have := hsort.2.1.1 z.2 (List.mem_map.2 ⟨z, h, rfl⟩); omega
      have hset : ∀ (k : Nat) (d : Bool), (listed.setIfInBounds i true).getD k d = if k = i then true else listed.getD k d := by
        intro k d
        rw [Array.getD_eq_getD_getElem?, Array.getElem?_setIfInBounds, Array.getD_eq_getD_getElem?]
        by_cases e : i = k
        · subst e; simp [show i < listed.size by omega]
        · simp [e, Ne.symm e]
      refine ih (listed.setIfInBounds i true) (L1 ++ L2) (s.app x.1) a' w' ?_ (by simpa using hsz) (fun k hk => ?_) (fun z hz => hlt z (hsub z hz)) hsort' (fun j o e hj hlj he hb => ?_) (fun z hz => hok z (hsub z hz)) (pairsOk_drop hpairs) (by simpa using hrest) hs'
      · simp only [List.length_append, List.length_cons] at hlen ⊢; omega
      · rw [hset]
        by_cases e : k = i
        · subst e
          simp only [if_true, reduceCtorEq, false_iff]
          intro hm
          obtain ⟨z, hz, hzk⟩ := List.mem_map.1 hm
          exact hnd z hz hzk
        · rw [if_neg e, hli k hk]
          simp only [List.map_append, List.map_cons, List.mem_append, List.mem_cons]
          constructor
          · rintro (h | h | h)
            · exact .inl h
            · exact absurd (h.trans hxi) e
            · exact .inr h
          · rintro (h | h)
            · exact .inl h
            · exact .inr (.inr h)
      · rw [hset] at hlj ⊢
        split
        · rfl
        · by_cases e' : j = i
          · subst e'
            have ho' := ho
            rw [hj] at ho'; cases ho'
            have := hi3 _ ho e he hb
            have hlt' := hback j _ e hj he hb
            rw [Array.getD_eq_getD_getElem?, Array.getElem?_eq_getElem (by omega : e.on < listed.size)] at this ⊢
            simpa using this
          · rw [if_neg e'] at hlj
            exact hdown j o e hj hlj he hb

end Go.Am
