/- Operations of a region, one by one; a region in any order; a function's begin and end; a call. -/
import Derived.Test.YtihcfphmikebgaaDoorAm7
namespace Go.Am
open Go.RowKit
set_option linter.unusedVariables false

variable {G : Gm} {Q : Exit → St → Prop} {ops : Array Oper} {o : Oper} {l : List Oper} {sl : List (Nat × A)} {mem : List (Nat × Ob)} {defs : List (Nat × List C)}

/-- Looked up by plain reckoning. -/
def lk {β : Type} : List (Nat × β) → Nat → Option β
  | [], _ => none
  | (k, v) :: l, t => bif Nat.beq t k then some v else lk l t
theorem lk_eq {β : Type} (l : List (Nat × β)) (t : Nat) : lk l t = l.lookup t := by
  induction l with
  | nil => rfl
  | cons p l ih =>
    obtain ⟨k, v⟩ := p
    rw [lookup_cons, lk, ih]
    by_cases e : t = k
    · subst e; simp
    · have : Nat.beq t k = false := by rw [← Bool.not_eq_true]; exact fun h => e (Nat.eq_of_beq_eq_true h)
      simp [this, e]

def ev (sl : List (Nat × A)) : Operand → Option A
  | .tmp t => lk sl t
  | .const v => some (A.val v)
  | .func f => some (A.val (.func (.func f) #[] #[]))
  | .global _ => none

/-- The slots that operands read, with what they hold. -/
def rd (sl : List (Nat × A)) : List Operand → List (Nat × A)
  | [] => []
  | .tmp t :: xs => (match lk sl t with | some x => [(t, x)] | none => []) ++ rd sl xs
  | _ :: xs => rd sl xs

theorem rd_ok (sl : List (Nat × A)) : ∀ (xs : List Operand), ∀ p ∈ rd sl xs, sl.lookup p.1 = some p.2
  | [], p, h => by simp [rd] at h
  | .tmp t :: xs, p, h => by
    simp only [rd, List.mem_append] at h
    rcases h with h | h
    · cases e : lk sl t with
      | none => rw [e] at h; simp at h
      | some x => rw [e] at h; simp at h; subst h; rw [← lk_eq]; exact e
    · exact rd_ok sl xs p h
  | .const _ :: xs, p, h => rd_ok sl xs p h
  | .func _ :: xs, p, h => rd_ok sl xs p h
  | .global _ :: xs, p, h => rd_ok sl xs p h

theorem rd_mem {sl : List (Nat × A)} {t : Nat} {x : A} : ∀ {xs : List Operand}, Operand.tmp t ∈ xs → lk sl t = some x → (t, x) ∈ rd sl xs
  | [], h, _ => by simp at h
  | y :: xs, h, hx => by
    rcases List.mem_cons.1 h with h | h
    · subst h; simp [rd, hx]
    · have ih := rd_mem h hx
      cases y <;> simp only [rd, List.mem_append] <;> first | exact .inr ih | exact ih

/-- An operand's value is what is told of it. -/
theorem ev_rep {K : Ctx} {ρ : Ren} {s : St} {a : Act} {w : World} {τ : Tr} {xs : List Operand} {x : Operand} {y : A} (hs : SimR K ρ s a w) (ht : τ.ok s) (hsub : ∀ p ∈ rd sl xs, p ∈ τ.rs) (hx : x ∈ xs)
    (hone : ∀ v, x = .const v → v.oneCell' = true) (he : ev sl x = some y) : RepA (Fs K ρ s.mem) ρ w y (a.eval x) := by
  cases x with
  | tmp t => exact hs.slots t y (ht.rs _ (hsub _ (rd_mem hx he)))
  | const v => simp only [ev, Option.some.injEq] at he; subst he; exact .c (.d (.v (hone v rfl)))
  | global g => simp [ev] at he
  | func f => simp only [ev, Option.some.injEq] at he; subst he; exact .c (.d (.v rfl))

/-- An operation that only computes: whatever the world, r is the result. -/
def PureOk (G : Gm) (o : Oper) (rs : List (Nat × A)) (rm : List (Nat × Ob)) (r : A) : Prop :=
  ∀ (K : Ctx) (ρ : Ren) (s : St) (a : Act) (w : World), K.fits G → SimR K ρ s a w → (∀ p ∈ rs, s.sl.lookup p.1 = some p.2) → (∀ p ∈ rm, s.mem.lookup p.1 = some p.2) →
    ∃ v, (execOp a.eval o).run G.P w = .ok (.value v) w ∧ RepA (Fs K ρ s.mem) ρ w r v

theorem PureOk.op {d : Nat} {rs : List (Nat × A)} {rm : List (Nat × Ob)} {r : A} (hd : o.dst = some d) (hn : d < G.n) (h : PureOk G o rs rm r) : OpOk G o ⟨rs, rm, [(d, r)], []⟩ := fun K hK s a w hs ht next Q hnx => by
  obtain ⟨ρ, hr⟩ := hs
  obtain ⟨v, h1, h2⟩ := h K ρ s a w hK hr ht.rs ht.rm
  unfold Oper.wp
  rw [h1, Oper.upon_value, hd]
  exact hnx _ _ ⟨ρ, hr.put (by rw [hK.1]; exact hn) h2⟩

/-- One step of a region, with all that is asked of its state. -/
structure StepR (G : Gm) (ops : Array Oper) (o : Oper) (sl : List (Nat × A)) (mem : List (Nat × Ob)) (τ : Tr) : Prop where
  ok : StepOk G ops o τ
  rs : ∀ p ∈ τ.rs, sl.lookup p.1 = some p.2
  rm : ∀ p ∈ τ.rm, mem.lookup p.1 = some p.2
  wm : ∀ p ∈ τ.wm, p.1 ∈ τ.rm.map (·.1) ∨ mem.lookup p.1 = none

theorem StepR.okAt {τ : Tr} (h : StepR G ops o sl mem τ) : τ.ok ⟨sl, mem, defs⟩ := ⟨h.rs, h.rm, h.wm⟩

theorem AL.go {τ : Tr} (h : StepR G ops o sl mem τ) (hk : AL G ops l ⟨τ.ws ++ sl, τ.wm ++ mem, defs⟩ Q) : AL G ops (o :: l) ⟨sl, mem, defs⟩ Q := AL.step h.ok h.okAt hk

/-- In any order: what was told so far, and what is still to be told. -/
def DW (G : Gm) (id : Nat) (all : List Oper) (s0 : St) (Q : Exit → St → Prop) (done : List Tr) (l : List Oper) (s : St) : Prop :=
  done.length ≤ all.length → all.drop done.length = l → Chain done s0 s → (∀ (i : Nat) (τ : Tr) (o : Oper), done[i]? = some τ → all[i]? = some o → StepOk G all.toArray o τ) → AW G (.region id all.toArray true) s0 Q

theorem AW.draw {id : Nat} {s : St} (h : DW G id l s Q [] l s) : AW G (.region id l.toArray true) s Q := h (by simp) (by simp) (St.like.refl _) (by simp)

theorem Chain.snoc : ∀ {ts : List Tr} {τ : Tr} {s s' : St}, Chain ts s s' → τ.ok s' → Chain (ts ++ [τ]) s (s'.app τ)
  | [], τ, s, s', h, hk => ⟨Tr.ok_like h.symm hk, h.app τ⟩
  | _ :: _, τ, s, s', h, hk => ⟨h.1, Chain.snoc h.2 hk⟩

theorem DW.go {id : Nat} {all : List Oper} {s0 : St} {done : List Tr} {τ : Tr} (h : StepR G all.toArray o sl mem τ) (hk : DW G id all s0 Q (done ++ [τ]) l ⟨τ.ws ++ sl, τ.wm ++ mem, defs⟩) : DW G id all s0 Q done (o :: l) ⟨sl, mem, defs⟩ := by
  intro h0 h1 h2 h3
  have hlen : done.length < all.length := by
    rcases Nat.lt_or_ge done.length all.length with x | x
    · exact x
    · rw [List.drop_eq_nil_of_le x] at h1; cases h1
  have hget : all[done.length]? = some o := by
    rw [List.drop_eq_getElem_cons hlen] at h1
    rw [List.getElem?_eq_getElem hlen]
    exact congrArg some (List.cons.inj h1).1
  refine hk (by simp; omega) ?_ (h2.snoc h.okAt) (fun i τ' o' hi ho => ?_)
  · rw [List.length_append, List.length_singleton, ← List.drop_drop, h1]; rfl
  · rcases Nat.lt_trichotomy i done.length with x | x | x
    · rw [List.getElem?_append_left x] at hi; exact h3 i τ' o' hi ho
    · subst x
      rw [List.getElem?_append_right (Nat.le_refl _)] at hi
      simp at hi; subst hi
      rw [hget] at ho; cases ho
      exact h.ok
    · rw [List.getElem?_eq_none (by simp; omega)] at hi; cases hi

theorem DW.fin {id : Nat} {all : List Oper} {s0 : St} {done : List Tr} {s : St} (hm : G.P.follows .mixedOrders = true) (hb : backOk all = true) (hp : pairsOk (masks all []) done.zipIdx = true) (hQ : Q .normal s) : DW G id all s0 Q done [] s := by
  intro h0 h1 h2 h3
  have hlen : done.length = all.length := by
    rcases Nat.lt_or_ge done.length all.length with x | x
    · rw [List.drop_eq_getElem_cons x] at h1; cases h1
    · omega
  intro K hK a w hs
  refine wp_region_any hm ?_
  obtain ⟨ρ, hr⟩ := hs
  have hs' : Sim K s0 a { w with drawn := w.drawn + 1 } := ⟨ρ, hr.heap rfl rfl rfl rfl⟩
  have hL2 : done.zipIdx.map (·.2) = List.range done.length := by
    rw [List.range_eq_range']; simp [List.zipIdx_map_snd]
  have hL1 : done.zipIdx.map (·.1) = done := by simp
  refine any_order (G := G) all.toArray (fun j o e ho he hbd => ?_) (masks all []) (fun j i hj => masks_spec all.toArray all [] (by simp) (by simp) j i hj) s K hK (Post K Q) (fun a w hs => ⟨s, hQ, hs⟩) _ _ done.zipIdx s0 a _ (by simp [hlen]) (by simp) (fun i hi => ?_) (fun x hx => ?_) ?_ (fun j o e ho hj he hbd => ?_) (fun x hx o ho => ?_) hp (by rw [hL1]; exact h2) hs'
  · have := List.all_eq_true.1 hb (o, j) (by
      rw [List.mem_zipIdx_iff_getElem?]
      simpa using ho)
    have h5 := List.all_eq_true.1 this e (by simpa using he)
    simpa [hbd] using h5
  · rw [hL2]
    simp only [List.size_toArray] at hi
    simp [Array.getD_eq_getD_getElem?, hi, hlen]
  · obtain ⟨x1, x2⟩ := x
    have := List.mem_zipIdx_iff_getElem?.1 hx
    have := (List.getElem?_eq_some_iff.1 this).1
    simpa [hlen] using this
  · rw [hL2]; exact List.pairwise_lt_range
  · exfalso
    have hj' : j < all.length := by
      have := (Array.getElem?_eq_some_iff.1 ho).1; simpa using this
    simp [Array.getD_eq_getD_getElem?, hj'] at hj
  · obtain ⟨x1, x2⟩ := x
    exact h3 x2 x1 o (List.mem_zipIdx_iff_getElem?.1 hx) (by simpa using ho)

/-! A function's begin and end -/

def argSlots : Nat → List A → List (Nat × A)
  | _, [] => []
  | i, x :: l => (i, x) :: argSlots (i + 1) l
theorem argSlots_lookup : ∀ (l : List A) (i t : Nat) (x : A), (argSlots i l).lookup t = some x → i ≤ t ∧ l[t - i]? = some x
  | [], _, _, _, h => by simp [argSlots] at h
  | y :: l, i, t, x, h => by
    rw [argSlots, lookup_cons] at h
    by_cases e : t = i
    · rw [if_pos e] at h; cases h; subst e; simp
    · rw [if_neg e] at h
      obtain ⟨h1, h2⟩ := argSlots_lookup l (i + 1) t x h
      refine ⟨by omega, ?_⟩
      rw [show t - i = (t - (i + 1)) + 1 by omega]
      simpa using h2

/-- What a function answers, behind s. -/
def Ends (G : Gm) (fn : Func) (s : St) (y : A) : Prop := ∀ (K : Ctx) (ρ : Ren) (a : Act) (w : World), K.fits G → SimR K ρ s a w → ∃ v, (results fn a.tmps).run G.P w = .ok v w ∧ RepA (Fs K ρ s.mem) ρ w y v

structure Fin (G : Gm) (fn : Func) (res : A) (mem' : List (Nat × Ob)) (e : Exit) (s : St) : Prop where
  e : e = .normal ∨ e = .ret
  out : ∃ y σ, Ends G fn s y ∧ A.le y (res.ren σ) ∧ (∀ m ∈ res.ids, (mem'.lookup m).isSome = true) ∧ Weak σ s ⟨[], mem', []⟩ ∧ ∀ m ∈ G.ent, σ m = m ∧ (mem'.lookup m).isSome = true

theorem spec_of {P : Program} {f : FuncId} {fn : Func} {c : Code} {args : List A} {mem mem' : List (Nat × Ob)} {res : A} (hf : P.funcs[f]? = some fn) (hb : fn.body = some c) (hn : args.length ≤ fn.ntmps)
    (h : AW ⟨P, fn.ntmps, mem.map (·.1)⟩ c ⟨argSlots 0 args, mem, []⟩ (Fin ⟨P, fn.ntmps, mem.map (·.1)⟩ fn res mem')) : Spec P f args mem res mem' := by
  intro F ρ w vs hms hlen hargs
  refine calls_of_wp hf hb ?_
  let K : Ctx := ⟨w, Wr ρ mem, F, fn.ntmps, ρ⟩
  have hK : K.fits ⟨P, fn.ntmps, mem.map (·.1)⟩ := ⟨rfl, fun m δ hm => by
    cases e : mem.lookup m with
    | none =>
      have hm' : ρ m = some δ := hm
      rw [hms.dom m e] at hm'; cases hm'
    | some ob => exact lookup_key e⟩
  have hget : ∀ i, i < vs.size → (vs ++ Array.replicate (fn.ntmps - vs.size) undef).getD i undef = vs.getD i undef := fun i hi => by
    simp [Array.getD_eq_getD_getElem?, Array.getElem?_append, hi]
  have hs : SimR K ρ ⟨argSlots 0 args, mem, []⟩ { tmps := vs ++ Array.replicate (fn.ntmps - vs.size) undef, defers := [] } w := by
    refine ⟨by simp [K]; omega, fun t x hx => ?_, hms.sat, hms.dom, hms.dist, fun g o hw => ⟨(hms.wr g o hw).1, (hms.wr g o hw).2, .inl hw⟩, Frm.refl _ _, hms.fF, Ren.le_refl _, rfl, by simp⟩
    obtain ⟨_, h2⟩ := argSlots_lookup args 0 t x hx
    simp only [Nat.sub_zero] at h2
    have ht : t < vs.size := by
      rw [← hlen]; exact (List.getElem?_eq_some_iff.1 h2).1
    rw [hget t ht]
    exact hargs t x h2
  refine wp_mono (h K hK _ _ ⟨ρ, hs⟩) fun e a' w' ⟨s', hq, ρ1, hs'⟩ => ?_
  obtain ⟨y, σ, q1, q2, q3, q4, q5⟩ := hq.out
  have hd : a'.defers = [] := by
    have := hs'.defs.1
    rw [q4.defs.1] at this
    exact List.eq_nil_of_length_eq_zero this.symm
  obtain ⟨v, hr1, hr2⟩ := q1 K ρ1 a' w' hK hs'
  have hw := hs'.weak q4 (fun m δ hm => q5 m (hK.2 m δ hm))
  have hres : bodyPost P fn (fun e w' => ∃ v ρ', e = .returned v ∧ ρ.le ρ' ∧ MS F ρ' mem' w' ∧ RepA (fun g o => F g o ∨ Wr ρ' mem' g o) ρ' w' res v ∧ (∀ g o, Wr ρ' mem' g o → Wr ρ mem g o ∨ w.heap.size ≤ g) ∧ Frm w (Wr ρ mem) w') .ret a' w' := by
    refine ⟨hd, v, hr1, v, _, rfl, hw.ent, hw.ms, ?_, fun g o hg => (hw.wr g o hg).2.2, hw.fr⟩
    refine ((q2 _ _ _ _ hr2).unren (ρ' := fun m => if (mem'.lookup m).isSome then ρ1 (σ m) else none) (fun m hm => by simp [q3 m hm])).stays ?_ (Ren.le_refl _)
    refine fun g o u x z => ⟨fun q => x (q.imp id ?_), z⟩
    rintro ⟨m, ob, δ, h1, h2, h3⟩
    obtain ⟨ob2, p1, p2⟩ := q4.mem _ (lookup_mem h1)
    simp only [h1, Option.isSome_some, if_true] at h2
    exact ⟨σ m, ob2, δ, p1, h2, (Ob.le_wr p2 δ g o).1 ((Ob.ren_wr σ ob δ g o).2 h3)⟩
  rcases hq.e with rfl | rfl
  · exact hres
  · exact hres

end Go.Am
