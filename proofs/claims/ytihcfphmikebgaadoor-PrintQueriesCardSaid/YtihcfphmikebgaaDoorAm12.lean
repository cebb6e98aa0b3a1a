/- The call's rule. -/
import Derived.Test.YtihcfphmikebgaaDoorAm11
namespace Go.Am
open Go.RowKit
set_option linter.unusedVariables false
set_option linter.unusedSimpArgs false

variable {G : Gm} {Q : Exit → St → Prop} {ops : Array Oper} {o : Oper} {l : List Oper} {sl : List (Nat × A)} {mem : List (Nat × Ob)} {defs : List (Nat × List C)}
variable {d : Nat} {ty : TypeId} {pos : String} {af : Array Edge} {gd : Option (Nat × Bool)} {K : Ctx} {ρ ρ' : Ren} {w w' : World} {F : Loc} {s : St} {a : Act}

/-- The function has a body. -/
def enters (P : Program) (f : FuncId) : Bool := match P.funcs[f]? with
  | some fn => fn.body.isSome && !(fn.name == "runtime.NumGoroutine")
  | none => false

theorem run_callFunc {P : Program} {f : FuncId} (h : enters P f = true) (args : Array Value) (w : World) : (callFunc f args).run P w = .ok (.enter f args) w := by
  unfold enters at h
  cases hf : P.funcs[f]? with
  | none => rw [hf] at h; cases h
  | some fn =>
    rw [hf] at h
    simp only [Bool.and_eq_true, Bool.not_eq_true'] at h
    have hb : fn.body.isNone = false := by cases hb : fn.body <;> simp_all
    have h1 : fn.name ≠ "runtime.NumGoroutine" := by simpa using h.2
    have h2 : fn.body ≠ none := by intro e; rw [e] at hb; cases hb
    simp [callFunc, hf, h1, h2]

/-- The function that is called, with what is bound ahead of and behind the arguments. -/
def calleeOf : A → Option (FuncId × List C × List C)
  | .c (.d (.v (.func (.func f) first caps))) => if first.isEmpty && caps.isEmpty then some (f, [], []) else none
  | .c (.clo (.func f) first caps) => some (f, first, caps)
  | _ => none

theorem calleeOf_spec {y : A} {f : FuncId} {fs cs : List C} (h : calleeOf y = some (f, fs, cs)) {v : Value} (hr : RepA F ρ w y v) :
    ∃ vs us : Array Value, v = .func (.func f) vs us ∧ fs.length = vs.size ∧ cs.length = us.size ∧ (∀ (i : Nat) (x : C), fs[i]? = some x → RepC F ρ w x (vs.getD i undef)) ∧ (∀ (i : Nat) (x : C), cs[i]? = some x → RepC F ρ w x (us.getD i undef)) := by
  unfold calleeOf at h
  split at h
  · split at h
    · cases h
      rename_i first caps e
      simp only [Bool.and_eq_true, Array.isEmpty_iff] at e
      obtain ⟨rfl, rfl⟩ := e
      have := hr.val
      exact ⟨#[], #[], this, rfl, rfl, by simp, by simp⟩
    · cases h
  · cases h
    cases hr with | c hr => cases hr with | clo h1 h2 hv hu => exact ⟨_, _, rfl, h1, h2, hv, hu⟩
  · cases h

def allLe (σ : Nat → Nat) : List A → List A → Prop
  | [], [] => True
  | y :: ys, x :: xs => A.le y (x.ren σ) ∧ allLe σ ys xs
  | _, _ => False
theorem allLe_spec {σ : Nat → Nat} : ∀ {ys xs : List A}, allLe σ ys xs → ys.length = xs.length ∧ ∀ (i : Nat) (y x : A), ys[i]? = some y → xs[i]? = some x → A.le y (x.ren σ)
  | [], [], _ => ⟨rfl, by simp⟩
  | y :: ys, x :: xs, h => by
    obtain ⟨h1, h2⟩ := allLe_spec h.2
    refine ⟨by simp [h1], fun i y' x' e1 e2 => ?_⟩
    cases i with
    | zero => simp at e1 e2; subst e1; subst e2; exact h.1
    | succ i => exact h2 i y' x' (by simpa using e1) (by simpa using e2)

/-- What the arguments' operands tell. -/
def evs (sl : List (Nat × A)) : List Operand → Option (List A)
  | [] => some []
  | x :: xs => match ev sl x, evs sl xs with
    | some y, some ys => some (y :: ys)
    | _, _ => none
theorem evs_spec {sl : List (Nat × A)} : ∀ {xs : List Operand} {ys : List A}, evs sl xs = some ys → xs.length = ys.length ∧ ∀ (i : Nat) (x : Operand) (y : A), xs[i]? = some x → ys[i]? = some y → ev sl x = some y
  | [], ys, h => by simp [evs] at h; subst h; simp
  | x :: xs, ys, h => by
    simp only [evs] at h
    cases h1 : ev sl x with
    | none => rw [h1] at h; simp at h
    | some y =>
      cases h2 : evs sl xs with
      | none => rw [h1, h2] at h; simp at h
      | some ys' =>
        rw [h1, h2] at h; simp at h; subst h
        obtain ⟨e1, e2⟩ := evs_spec h2
        refine ⟨by simp [e1], fun i x' y' q1 q2 => ?_⟩
        cases i with
        | zero => simp at q1 q2; subst q1; subst q2; exact h1
        | succ i => exact e2 i x' y' (by simpa using q1) (by simpa using q2)

/-- No constant of several cells among the operands. -/
def oneAll (xs : List Operand) : Bool := xs.all fun x => match x with | .const v => v.oneCell' | _ => true
theorem oneAll_spec {xs : List Operand} (h : oneAll xs = true) {x : Operand} (hx : x ∈ xs) : ∀ v, x = .const v → v.oneCell' = true := fun v e => by
  have := List.all_eq_true.1 h x hx
  subst e; exact this

def closedIn (lm : List (Nat × Ob)) (xs : List A) : Bool := xs.all fun x => x.ids.all fun m => hasKey lm m

theorem r_call {fo : Operand} {xs : Array Operand} {ats : Array TypeId} {f : FuncId} {yc : A} {fs cs : List C} {ys args : List A} {lm lm' rm : List (Nat × Ob)} {res : A} (σ : Nat → Nat)
    (hsp : Spec G.P f args lm res lm') (hent : enters G.P f = true) (hf : ev sl fo = some yc) (hcal : calleeOf yc = some (f, fs, cs)) (hxs : evs sl xs.toList = some ys)
    (hone : oneAll (fo :: xs.toList) = true)
    (hle : allLe σ (fs.map A.c ++ ys ++ cs.map A.c) args) (hids : closedIn lm args = true) (hL : Lent σ lm lm' rm) (hrm : ∀ p ∈ rm, mem.lookup p.1 = some p.2)
    (hnew : ∀ p ∈ lm', hasKey lm p.1 = false → mem.lookup (σ p.1) = none) (hn : d < G.n) :
    OpR G ⟨some d, .call ⟨.value fo, xs, ats⟩, ty, pos, af, gd⟩ sl mem ⟨rd sl (fo :: xs.toList), rm, [(d, res.ren σ)], renMem σ lm'⟩ where
  rs := rd_ok sl _
  rm := hrm
  wm := fun p hp => by
    simp only [renMem, List.mem_map] at hp
    obtain ⟨q, hq, rfl⟩ := hp
    by_cases hk : hasKey lm q.1 = true
    · left
      rw [hasKey_iff] at hk
      cases e : lm.lookup q.1 with
      | none => rw [e] at hk; cases hk
      | some ob =>
        obtain ⟨ob2, h1, _⟩ := hL.has _ _ e
        exact List.mem_map.2 ⟨_, h1, rfl⟩
    · exact .inr (hnew q hq (by simpa using hk))
  ok := fun K hK s a w hs ht next Q hnx => by
    obtain ⟨ρ, hr⟩ := hs
    have hrs : ∀ p ∈ rd sl (fo :: xs.toList), s.sl.lookup p.1 = some p.2 := ht.rs
    obtain ⟨hms, hWr0, hiff⟩ := ms_of hr hL ht.rm
    obtain ⟨vs, us, q1, q2, q3, q4, q5⟩ := calleeOf_spec hcal (rep_of hr hrs (by simp) (oneAll_spec hone (by simp)) hf)
    obtain ⟨e1, e2⟩ := evs_spec hxs
    have e1' : xs.size = ys.length := by simpa using e1
    obtain ⟨l1, l2⟩ := allLe_spec hle
    generalize hρ0 : (fun m => if hasKey lm m then ρ (σ m) else none : Ren) = ρ0 at *
    have hF : (fun g o => (K.F g o ∨ Wr ρ s.mem g o ∧ ¬Wr ρ0 lm g o) ∨ Wr ρ0 lm g o) = Fs K ρ s.mem := by
      funext g o; exact propext (hiff g o)
    have hlen : args.length = (vs ++ xs.map a.eval ++ us).size := by
      rw [← l1]; simp [q2, q3, ← e1]
    have hargs : ∀ (i : Nat) (x : A), args[i]? = some x → RepA (fun g o => (K.F g o ∨ Wr ρ s.mem g o ∧ ¬Wr ρ0 lm g o) ∨ Wr ρ0 lm g o) ρ0 w x ((vs ++ xs.map a.eval ++ us).getD i undef) := by
      intro i x hx
      rw [hF]
      have hi : i < args.length := (List.getElem?_eq_some_iff.1 hx).1
      have hy : ∃ y, (fs.map A.c ++ ys ++ cs.map A.c)[i]? = some y := ⟨_, List.getElem?_eq_getElem (by rw [l1]; exact hi)⟩
      obtain ⟨y, hy⟩ := hy
      have hyr : RepA (Fs K ρ s.mem) ρ w y ((vs ++ xs.map a.eval ++ us).getD i undef) := by
        rw [Array.getD_eq_getD_getElem?]
        rcases Nat.lt_or_ge i fs.length with c1 | c1
        · rw [List.getElem?_append_left (by simp; omega), List.getElem?_append_left (by simpa using c1)] at hy
          rw [Array.getElem?_append_left (by simp; omega), Array.getElem?_append_left (by omega)]
          simp only [List.getElem?_map, Option.map_eq_some_iff] at hy
          obtain ⟨c, hc, rfl⟩ := hy
          rw [← Array.getD_eq_getD_getElem?]
          exact .c (q4 i c hc)
        · rcases Nat.lt_or_ge i (fs.length + ys.length) with c2 | c2
          · rw [List.getElem?_append_left (by simp; omega), List.getElem?_append_right (by simpa using c1)] at hy
            rw [Array.getElem?_append_left (by simp only [Array.size_append, Array.size_map]; omega), Array.getElem?_append_right (by omega)]
            simp only [List.length_map] at hy
            have hx' : (i - fs.length) < xs.toList.length := by rw [e1]; omega
            have := e2 (i - fs.length) _ _ (List.getElem?_eq_getElem hx') hy
            have hrp := rep_of hr hrs (List.mem_cons_of_mem _ (List.getElem_mem hx')) (oneAll_spec hone (List.mem_cons_of_mem _ (List.getElem_mem hx'))) this
            simp only [Array.length_toList] at hx'
            rw [← q2, Array.getElem?_map, Array.getElem?_eq_getElem hx']
            simpa using hrp
          · rw [List.getElem?_append_right (by simp; omega)] at hy
            rw [Array.getElem?_append_right (by simp only [Array.size_append, Array.size_map]; omega)]
            simp only [List.getElem?_map, Option.map_eq_some_iff, List.length_append, List.length_map] at hy
            obtain ⟨c, hc, rfl⟩ := hy
            have hsz : (vs ++ xs.map a.eval).size = fs.length + ys.length := by simp only [Array.size_append, Array.size_map]; omega
            rw [hsz, ← Array.getD_eq_getD_getElem?]
            exact .c (q5 _ c hc)
      refine (l2 i y x hy hx _ _ _ _ hyr).unren (fun m hm => ?_)
      have := List.all_eq_true.1 (List.all_eq_true.1 hids x (List.mem_of_getElem? hx)) m hm
      rw [← hρ0]; simp [this]
    have hcalls := hsp _ ρ0 w _ hms hlen hargs
    have hrun : (execOp a.eval ⟨some d, .call ⟨.value fo, xs, ats⟩, ty, pos, af, gd⟩).run G.P w = .ok (.enter f (vs ++ xs.map a.eval ++ us)) w := by
      simp [execOp, resolve, q1, Deferred.ofValue, invoke, run_callFunc hent]
    unfold Oper.wp
    rw [hrun, Oper.upon_enter]
    refine Calls.mono hcalls fun e w' ⟨v, ρ', h0, h1, h2, h3, h4, h5⟩ => ?_
    subst h0
    have hnew' : ∀ m, hasKey lm' m = true → hasKey lm m = false → s.mem.lookup (σ m) = none := by
      intro m h1 h2
      rw [hasKey_iff] at h1
      cases e : lm'.lookup m with
      | none => rw [e] at h1; cases h1
      | some ob =>
        have hm := lookup_mem e
        rcases ht.wm (σ m, ob.ren σ) (List.mem_map.2 ⟨_, hm, rfl⟩) with hh | hh
        · exfalso
          obtain ⟨p, p1, p2⟩ := List.mem_map.1 hh
          obtain ⟨m', r1, r2⟩ := hL.only p p1
          have := hL.inj m' m (hL.keys m' r1) ((hasKey_iff _ _).2 (by rw [e]; rfl)) (r2.trans p2)
          subst this; rw [r1] at h2; cases h2
        · exact hh
    obtain ⟨ρ1, z1, z2⟩ := hr.called hL ht.rm hnew' (by rw [hρ0]; exact h1) (by rw [hρ0]; exact h2) (by rw [hρ0]; exact h3) (by rw [hρ0]; exact h4) (by rw [hρ0]; exact h5)
    exact hnx _ _ ⟨ρ1, z1.put (by rw [hK.1]; exact hn) z2⟩

end Go.Am
