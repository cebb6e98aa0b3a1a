/- Deferred calls. -/
import Derived.Test.YtihcfphmikebgaaDoorAm17
namespace Go.Am
open Go.RowKit
set_option linter.unusedVariables false
set_option linter.unusedSimpArgs false

variable {G : Gm} {Q : Exit → St → Prop} {ops : Array Oper} {o : Oper} {l : List Oper} {sl : List (Nat × A)} {mem : List (Nat × Ob)} {defs : List (Nat × List C)}
variable {d : Nat} {ty : TypeId} {pos : String} {af : Array Edge} {gd : Option (Nat × Bool)} {K : Ctx} {ρ ρ' : Ren} {w w' : World} {F : Loc} {s s' : St} {a : Act}

/-- What is known behind a call. -/
def Behind (F : Loc) (ρ : Ren) (mem : List (Nat × Ob)) (w : World) (res : A) (mem' : List (Nat × Ob)) (v : Value) (w' : World) : Prop :=
  ∃ ρ', ρ.le ρ' ∧ MS F ρ' mem' w' ∧ RepA (fun g o => F g o ∨ Wr ρ' mem' g o) ρ' w' res v ∧ (∀ g o, Wr ρ' mem' g o → Wr ρ mem g o ∨ w.heap.size ≤ g) ∧ Frm w (Wr ρ mem) w'

/-- The contract of a function that is called when another ends. -/
def SpecD (P : Program) (f : FuncId) (args : List A) (mem : List (Nat × Ob)) (res : A) (mem' : List (Nat × Ob)) : Prop :=
  ∀ (F : Loc) (ρ : Ren) (w : World) (vs : Array Value) (u : FrameMode), MS F ρ mem w → args.length = vs.size →
    (∀ (i : Nat) (x : A), args[i]? = some x → RepA (fun g o => F g o ∨ Wr ρ mem g o) ρ w x (vs.getD i undef)) →
    CallsD P f vs u w fun e u' w' => u' = u ∧ ∃ v, e = .returned v ∧ Behind F ρ mem w res mem' v w'

def ctxOf (w : World) (F : Loc) (ρ : Ren) (mem : List (Nat × Ob)) (n : Nat) : Ctx := ⟨w, Wr ρ mem, F, n, ρ⟩

theorem begin_of {P : Program} {args : List A} {mem : List (Nat × Ob)} {n : Nat} (hn : args.length ≤ n) {F : Loc} {ρ : Ren} {w : World} {vs : Array Value} (hms : MS F ρ mem w) (hlen : args.length = vs.size)
    (hargs : ∀ (i : Nat) (x : A), args[i]? = some x → RepA (fun g o => F g o ∨ Wr ρ mem g o) ρ w x (vs.getD i undef)) :
    (ctxOf w F ρ mem n).fits ⟨P, n, mem.map (·.1)⟩ ∧ SimR (ctxOf w F ρ mem n) ρ ⟨argSlots 0 args, mem, []⟩ { tmps := vs ++ Array.replicate (n - vs.size) undef, defers := [] } w := by
  have hget : ∀ i, i < vs.size → (vs ++ Array.replicate (n - vs.size) undef).getD i undef = vs.getD i undef := fun i hi => by
    simp [Array.getD_eq_getD_getElem?, Array.getElem?_append, hi]
  refine ⟨⟨rfl, fun m δ hm => ?_⟩, ⟨by simp [ctxOf]; omega, fun t x hx => ?_, hms.sat, hms.dom, hms.dist, fun g o hw => ⟨(hms.wr g o hw).1, (hms.wr g o hw).2, .inl hw⟩, Frm.refl _ _, hms.fF, Ren.le_refl _, rfl, by simp⟩⟩
  · cases e : mem.lookup m with
    | none =>
      have hm' : ρ m = some δ := hm
      rw [hms.dom m e] at hm'; cases hm'
    | some ob => exact lookup_key e
  · obtain ⟨_, h2⟩ := argSlots_lookup args 0 t x hx
    simp only [Nat.sub_zero] at h2
    have ht : t < vs.size := by
      rw [← hlen]; exact (List.getElem?_eq_some_iff.1 h2).1
    rw [hget t ht]
    exact hargs t x h2

/-- The end told: what the caller learns. -/
theorem end_of {P : Program} {fn : Func} {res : A} {mem mem' : List (Nat × Ob)} {n : Nat} {F : Loc} {ρ : Ren} {w : World} {e : Exit} {s' : St} {a' : Act} {w' : World} {ρ1 : Ren}
    (hK : (ctxOf w F ρ mem n).fits ⟨P, n, mem.map (·.1)⟩) (hq : Fin ⟨P, n, mem.map (·.1)⟩ fn res mem' e s') (hs' : SimR (ctxOf w F ρ mem n) ρ1 s' a' w') :
    a'.defers = [] ∧ ∃ v, (results fn a'.tmps).run P w' = .ok v w' ∧ Behind F ρ mem w res mem' v w' := by
  obtain ⟨y, σ, q1, q2, q3, q4, q5⟩ := hq.out
  have hd : a'.defers = [] := by
    have := hs'.defs.1
    rw [q4.defs.1] at this
    exact List.eq_nil_of_length_eq_zero this.symm
  obtain ⟨v, hr1, hr2⟩ := q1 _ ρ1 a' w' hK hs'
  have hw := hs'.weak q4 (fun m δ hm => q5 m (hK.2 m δ hm))
  refine ⟨hd, v, hr1, _, hw.ent, hw.ms, ?_, fun g o hg => (hw.wr g o hg).2.2, hw.fr⟩
  refine ((q2 _ _ _ _ hr2).unren (ρ' := fun m => if (mem'.lookup m).isSome then ρ1 (σ m) else none) (fun m hm => by simp [q3 m hm])).stays ?_ (Ren.le_refl _)
  refine fun g o u x z => ⟨fun q => x (q.imp id ?_), z⟩
  rintro ⟨m, ob, δ, h1, h2, h3⟩
  obtain ⟨ob2, p1, p2⟩ := q4.mem _ (lookup_mem h1)
  simp only [h1, Option.isSome_some, if_true] at h2
  exact ⟨σ m, ob2, δ, p1, h2, (Ob.le_wr p2 δ g o).1 ((Ob.ren_wr σ ob δ g o).2 h3)⟩

theorem specD_ofN {P : Program} {f : FuncId} {fn : Func} {c : Code} {args : List A} {mem mem' : List (Nat × Ob)} {res : A} {n : Nat} (hf : P.funcs[f]? = some fn) (hb : fn.body = some c) (hnn : fn.ntmps = n) (hn : args.length ≤ n)
    (h : AW ⟨P, n, mem.map (·.1)⟩ c ⟨argSlots 0 args, mem, []⟩ (Fin ⟨P, n, mem.map (·.1)⟩ fn res mem')) : SpecD P f args mem res mem' := by
  subst hnn
  intro F ρ w vs u hms hlen hargs
  obtain ⟨hK, hs⟩ := begin_of (P := P) hn hms hlen hargs
  refine callsD_of_wp (R := fun e w' => ∃ v, e = .returned v ∧ Behind F ρ mem w res mem' v w') hf hb ?_
  refine wp_mono (h _ hK _ _ ⟨ρ, hs⟩) fun e a' w' ⟨s', hq, ρ1, hs'⟩ => ?_
  obtain ⟨hd, v, hr, hB⟩ := end_of hK hq hs'
  rcases hq.e with rfl | rfl
  · exact ⟨hd, v, hr, v, rfl, hB⟩
  · exact ⟨hd, v, hr, v, rfl, hB⟩

/-- A call that is kept for the end. -/
theorem AL.defer {f : FuncId} {xs : Array Operand} {ats : Array TypeId} {ys : List A} {cs : List C} (hxs : evs sl xs.toList = some ys) (hys : ys = cs.map A.c) (hone : oneAll xs.toList = true)
    (hk : AL G ops l ⟨sl, mem, (f, cs) :: defs⟩ Q) : AL G ops (⟨none, .defer ⟨.value (.func f), xs, ats⟩, ty, pos, af, none⟩ :: l) ⟨sl, mem, defs⟩ Q := fun K hK a w hs => by
  unfold wpList
  rw [if_pos (by simp [Region.wanted])]
  left
  obtain ⟨ρ, hr⟩ := hs
  have hrun : (execOp a.eval ⟨none, .defer ⟨.value (.func f), xs, ats⟩, ty, pos, af, none⟩).run G.P w = .ok (.defer { target := .fn (.func f) #[], args := xs.map a.eval }) w := by
    simp [execOp, resolve, Deferred.ofValue, Act.eval]
  unfold Oper.wp
  rw [hrun, Oper.upon_defer]
  refine hk K hK _ _ ⟨ρ, ⟨hr.n, hr.slots, hr.mem, hr.dom, hr.dist, hr.wr, hr.fr, hr.fF, hr.ent, ?_⟩⟩
  subst hys
  obtain ⟨e1, e2⟩ := evs_spec hxs
  have hd := hr.defs
  refine ⟨by simp only [Act.put, List.length_cons]; exact congrArg (· + 1) hd.1, fun i x dd hi hdi => ?_⟩
  cases i with
  | zero =>
    simp [Act.put] at hi hdi
    subst hi; subst hdi
    refine .mk (by simp only [List.length_map] at e1; simp [← e1]) (fun j y hy => ?_)
    have hj : j < xs.toList.length := by rw [e1, List.length_map]; exact (List.getElem?_eq_some_iff.1 hy).1
    have hy' : (cs.map A.c)[j]? = some (.c y) := by simp [hy]
    have := e2 j _ _ (List.getElem?_eq_getElem hj) hy'
    have hrep := rep_of hr (rd_ok sl xs.toList) (List.getElem_mem hj) (oneAll_spec hone (List.getElem_mem hj)) this
    simp only [Array.length_toList] at hj
    rw [Array.getD_eq_getD_getElem?, Array.getElem?_map, Array.getElem?_eq_getElem hj]
    cases hrep with | c hrep => simpa using hrep
  | succ i => exact hd.2 i x dd (by simpa using hi) (by simpa [Act.put] using hdi)

/-- The function ends with one call kept, or none. -/
inductive FinD (G : Gm) (fn : Func) (res : A) (mem' : List (Nat × Ob)) (e : Exit) (s : St) : Prop where
  | plain (h : Fin G fn res mem' e s) : FinD G fn res mem' e s
  | one (he : e = .normal ∨ e = .ret) {f : FuncId} {cs : List C} {lm lm' : List (Nat × Ob)} {r : A} (hd : s.defs = [(f, cs)]) (hsp : SpecD G.P f (cs.map A.c) lm r lm') (hent : enters G.P f = true)
      (hids : closedIn lm (cs.map A.c) = true) (hrm : HasAll s.mem lm) (hkeys : (lm.all fun p => hasKey lm' p.1) = true) (hcl : (lm.all fun p => p.2.ids.all (hasKey lm)) = true) (hnew : newOk s.mem lm lm' = true)
      (h : Fin G fn res mem' .ret ⟨s.sl, lm' ++ s.mem, []⟩) : FinD G fn res mem' e s

theorem lent_id {lm lm' : List (Nat × Ob)} (hkeys : (lm.all fun p => hasKey lm' p.1) = true) (hcl : (lm.all fun p => p.2.ids.all (hasKey lm)) = true) : Lent id lm lm' lm :=
  ⟨fun _ _ _ _ e => e, fun m hm => by
    rw [hasKey_iff] at hm
    cases e : lm.lookup m with
    | none => rw [e] at hm; cases hm
    | some ob => exact List.all_eq_true.1 hkeys _ (lookup_mem e), fun m ob e => ⟨ob, lookup_mem e, by rw [Ob.ren_id]; exact Ob.le_refl _⟩, fun p hp m hm => List.all_eq_true.1 (List.all_eq_true.1 hcl p hp) m hm, fun p hp => ⟨p.1, (hasKey_iff _ _).2 (lookup_isSome_of_mem (v := p.2) hp), rfl⟩⟩

theorem spec_ofDN {P : Program} {f : FuncId} {fn : Func} {c : Code} {args : List A} {mem mem' : List (Nat × Ob)} {res : A} {n : Nat} (hf : P.funcs[f]? = some fn) (hb : fn.body = some c) (hnn : fn.ntmps = n) (hn : args.length ≤ n)
    (h : AW ⟨P, n, mem.map (·.1)⟩ c ⟨argSlots 0 args, mem, []⟩ (FinD ⟨P, n, mem.map (·.1)⟩ fn res mem')) : Spec P f args mem res mem' := by
  subst hnn
  intro F ρ w vs hms hlen hargs
  obtain ⟨hK, hs⟩ := begin_of (P := P) hn hms hlen hargs
  refine calls_of_wp_defers hf hb ?_
  refine wp_mono (h _ hK _ _ ⟨ρ, hs⟩) fun e a' w' ⟨s', hq, ρ1, hs'⟩ => ?_
  have key : ∀ {a' : Act} {w' : World} {s' : St} {ρ1 : Ren} {e : Exit}, Fin ⟨P, fn.ntmps, mem.map (·.1)⟩ fn res mem' e s' → SimR (ctxOf w F ρ mem fn.ntmps) ρ1 s' a' w' → a'.defers = [] ∧
      Leaves P fn a'.tmps (fun e w' => ∃ v ρ', e = .returned v ∧ ρ.le ρ' ∧ MS F ρ' mem' w' ∧ RepA (fun g o => F g o ∨ Wr ρ' mem' g o) ρ' w' res v ∧ (∀ g o, Wr ρ' mem' g o → Wr ρ mem g o ∨ w.heap.size ≤ g) ∧ Frm w (Wr ρ mem) w') [] .returning w' := by
    intro a' w' s' ρ1 e hq hs'
    obtain ⟨hd, v, hr, ρ2, h1, h2, h3, h4, h5⟩ := end_of hK hq hs'
    exact ⟨hd, v, hr, v, ρ2, rfl, h1, h2, h3, h4, h5⟩
  cases hq with
  | plain hq =>
    obtain ⟨hd, hl⟩ := key hq hs'
    rcases hq.e with rfl | rfl
    · show Leaves _ _ _ _ a'.defers _ _
      rw [hd]; exact hl
    · show Leaves _ _ _ _ a'.defers _ _
      rw [hd]; exact hl
  | one he hd hsp hent hids hrm hkeys hcl hnew hq =>
    rename_i f1 cs lm lm' r
    have hdl := hs'.defs
    rw [hd] at hdl
    obtain ⟨dd, hdd⟩ : ∃ dd, a'.defers = [dd] := by
      have := hdl.1
      match ha : a'.defers, this with
      | [x], _ => exact ⟨x, rfl⟩
    have hrep := hdl.2 0 (f1, cs) dd rfl (by rw [hdd]; rfl)
    have hL := lent_id hkeys hcl
    obtain ⟨hms1, hWr0, hiff⟩ := ms_of hs' hL hrm.spec
    have hF : (fun g o => ((ctxOf w F ρ mem fn.ntmps).F g o ∨ Wr ρ1 s'.mem g o ∧ ¬Wr (fun m => if hasKey lm m then ρ1 (id m) else none) lm g o) ∨ Wr (fun m => if hasKey lm m then ρ1 (id m) else none) lm g o) = Fs (ctxOf w F ρ mem fn.ntmps) ρ1 s'.mem := by
      funext g o; exact propext (hiff g o)
    suffices hleaves : Leaves P fn a'.tmps (fun e w' => ∃ v ρ', e = .returned v ∧ ρ.le ρ' ∧ MS F ρ' mem' w' ∧ RepA (fun g o => F g o ∨ Wr ρ' mem' g o) ρ' w' res v ∧ (∀ g o, Wr ρ' mem' g o → Wr ρ mem g o ∨ w.heap.size ≤ g) ∧ Frm w (Wr ρ mem) w') a'.defers .returning w' by
      rcases he with rfl | rfl
      · exact hleaves
      · exact hleaves
    rw [hdd]
    cases hrep with
    | mk h1 hv =>
      rename_i vs1
      refine leaves_cons (f := f1) (args := vs1) (by simp) (by simp [invoke, run_callFunc hent]) ?_
      refine CallsD.mono (hsp _ _ w' vs1 .returning hms1 (by simpa using h1) (fun i x hx => ?_)) fun e u' w2 ⟨hu, v, he', ρ', b1, b2, b3, b4, b5⟩ => ?_
      · rw [hF]
        simp only [List.getElem?_map, Option.map_eq_some_iff] at hx
        obtain ⟨y, hy, rfl⟩ := hx
        refine (RepA.unren (σ := id) (ρ := ρ1) (by rw [A.ren_id]; exact .c (hv i y hy)) (fun m hm => ?_))
        have := List.all_eq_true.1 (List.all_eq_true.1 hids (.c y) (List.mem_map.2 ⟨y, List.mem_of_getElem? hy, rfl⟩)) m hm
        simp [this]
      · subst hu; subst he'
        obtain ⟨ρ2, z1, _⟩ := hs'.called (res := .tup []) (v := .tuple #[]) hL hrm.spec (fun m k1 k2 => by
          cases e : s'.mem.lookup m with
          | none => exact e
          | some ob =>
            exfalso
            rw [hasKey_iff] at k1
            cases e1 : lm'.lookup m with
            | none => rw [e1] at k1; cases k1
            | some ob1 =>
              have := List.all_eq_true.1 hnew _ (lookup_mem e1)
              rw [k2] at this
              have k3 : hasKey s'.mem m = true := (hasKey_iff _ _).2 (by rw [e]; rfl)
              simp [k3] at this) b1 b2 (.tup rfl (by simp)) b4 b5
        rw [renMem_id] at z1
        have z2 : SimR (ctxOf w F ρ mem fn.ntmps) ρ2 ⟨s'.sl, lm' ++ s'.mem, []⟩ { tmps := a'.tmps, defers := [] } w2 := ⟨z1.n, z1.slots, z1.mem, z1.dom, z1.dist, z1.wr, z1.fr, z1.fF, z1.ent, rfl, by simp⟩
        exact (key hq z2).2

end Go.Am
