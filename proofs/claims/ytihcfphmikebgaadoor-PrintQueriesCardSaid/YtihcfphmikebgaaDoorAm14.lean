/- Ends of functions; conditions; calls by the same names; what a loop forgets. -/
import Derived.Test.YtihcfphmikebgaaDoorAm13
namespace Go.Am
open Go.RowKit
set_option linter.unusedVariables false
set_option linter.unusedSimpArgs false

variable {G : Gm} {Q : Exit → St → Prop} {ops : Array Oper} {o : Oper} {l : List Oper} {sl : List (Nat × A)} {mem : List (Nat × Ob)} {defs : List (Nat × List C)}
variable {d : Nat} {ty : TypeId} {pos : String} {af : Array Edge} {gd : Option (Nat × Bool)} {K : Ctx} {ρ ρ' : Ren} {w w' : World} {F : Loc} {s s' : St} {a : Act}

/-! Names as they are -/

mutual
theorem C.ren_id : ∀ (x : C), C.ren id x = x
  | .d x => rfl
  | .ref m off => rfl
  | .own m rows => rfl
  | .row m n => rfl
  | .pel cs => rfl
  | .clo fn first caps => by rw [C.ren, C.rens_id first, C.rens_id caps]
theorem C.rens_id : ∀ (l : List C), C.rens id l = l
  | [] => rfl
  | x :: l => by rw [C.rens, C.ren_id x, C.rens_id l]
end
mutual
theorem A.ren_id : ∀ (x : A), A.ren id x = x
  | .c x => by rw [A.ren, C.ren_id]
  | .agg cs => by rw [A.ren, C.rens_id]
  | .tup l => by rw [A.ren, A.rens_id l]
theorem A.rens_id : ∀ (l : List A), A.rens id l = l
  | [] => rfl
  | x :: l => by rw [A.rens, A.ren_id x, A.rens_id l]
end
theorem Ob.ren_id (x : Ob) : Ob.ren id x = x := by cases x <;> simp [Ob.ren, C.rens_id]
theorem renMem_id (l : List (Nat × Ob)) : renMem id l = l := by simp [renMem, Ob.ren_id]

/-! What tells less -/

theorem A.le_own {m : Nat} {rows : List (List D)} : A.le (.c (.own m rows)) (.c (.d (.sl false rows))) := fun F ρ w v h => by
  cases h with | c h => exact .c (.d h.ownD)
theorem A.le_nn {nn : Bool} {rows : List (List D)} : A.le (.c (.d (.sl nn rows))) (.c (.d (.sl false rows))) := fun F ρ w v h => by
  cases h with | c h => cases h with | d h => exact .c (.d h.weakNn)
theorem A.le_nil : A.le (A.val (.slice none 0 0)) (.c (.d (.sl false []))) := fun F ρ w v h => by
  rw [h.val]; exact .c (.d (.sl0 none 0 (by simp)))
theorem A.le_of_eq {x y : A} (h : x = y) : A.le x y := h ▸ A.le_refl x
inductive AllLe : List A → List A → Prop where
  | nil : AllLe [] []
  | cons {x y : A} {xs ys : List A} (h : A.le x y) (t : AllLe xs ys) : AllLe (x :: xs) (y :: ys)
theorem AllLe.spec {xs ys : List A} (h : AllLe xs ys) : xs.length = ys.length ∧ ∀ (i : Nat) (x y : A), xs[i]? = some x → ys[i]? = some y → A.le x y := by
  induction h with
  | nil => exact ⟨rfl, by simp⟩
  | cons h t ih =>
    refine ⟨by simp [ih.1], fun i x y hx hy => ?_⟩
    cases i with
    | zero => simp at hx hy; subst hx; subst hy; exact h
    | succ i => exact ih.2 i x y (by simpa using hx) (by simpa using hy)
theorem A.le_tup {xs ys : List A} (h : AllLe xs ys) : A.le (.tup xs) (.tup ys) := fun F ρ w v hr => by
  cases hr with
  | tup h1 hv =>
    obtain ⟨e1, e2⟩ := h.spec
    refine .tup (by omega) (fun i y hy => ?_)
    have hi : i < xs.length := by rw [e1]; exact (List.getElem?_eq_some_iff.1 hy).1
    exact e2 i _ y (List.getElem?_eq_getElem hi) hy _ _ _ _ (hv i _ (List.getElem?_eq_getElem hi))

/-! A function's end -/

inductive ResOf (G : Gm) (s : St) : List ResultVar → List A → Prop where
  | nil : ResOf G s [] []
  | tmp {t : Nat} {x : A} {rs : List ResultVar} {ys : List A} (h : lk s.sl t = some x) (r : ResOf G s rs ys) : ResOf G s (.tmp t :: rs) (x :: ys)
  | cell {p m off : Nat} {t : TypeId} {k b : Nat} {g : Bool} {z : Option Value} {cs : List C} {y : A} {rs : List ResultVar} {ys : List A} (ht : tinf G.P t = some (k, b, g, z)) (ha : lk s.sl p = some (.c (.ref m off))) (hm : lk s.mem m = some (.box cs))
      (hl : loaded g k (cs.drop off) = some y) (r : ResOf G s rs ys) : ResOf G s (.cell p t :: rs) (y :: ys)

def retA : List A → A
  | [y] => y
  | ys => .tup ys

abbrev resVal (tmps : Array Value) (r : ResultVar) : Sem Value := match r with | .tmp t => pure (tmps.getD t undef) | .cell p t => do loadVar t (← asAddr (tmps.getD p undef))

theorem resOf_run (hs : SimR K ρ s a w) {rs : List ResultVar} {ys : List A} (h : ResOf G s rs ys) :
    ∃ vs : List Value, (rs.mapM (resVal a.tmps)).run G.P w = .ok vs w ∧
      vs.length = ys.length ∧ ∀ (i : Nat) (y : A), ys[i]? = some y → RepA (Fs K ρ s.mem) ρ w y (vs.getD i undef) := by
  induction h with
  | nil => exact ⟨[], by simp, rfl, by simp⟩
  | tmp h r ih =>
    obtain ⟨vs, e1, e2, e3⟩ := ih
    refine ⟨_ :: vs, by rw [List.mapM_cons]; simp [e1]; rfl, by simp [e2], fun i y hy => ?_⟩
    cases i with
    | zero =>
      simp at hy; subst hy
      have := hs.slots _ _ (by rw [← lk_eq]; exact h)
      rw [Array.getD_eq_getD_getElem?] at this
      exact this
    | succ i => exact e3 i y (by simpa using hy)
  | cell ht ha hm hl r ih =>
    obtain ⟨vs, e1, e2, e3⟩ := ih
    rename_i p m off t k b g z cs y rs ys
    have hr := hs.slots _ _ (by rw [← lk_eq]; exact ha)
    have hsat := hs.mem m _ (by rw [← lk_eq]; exact hm)
    generalize hv : a.tmps.getD p undef = v at hr
    cases hr with
    | c hr =>
      cases hr with
      | ref hδ =>
        cases hsat with
        | box h1 h2 h3 h4 =>
          rw [hδ] at h1; cases h1
          rename_i δ arr tt
          obtain ⟨u, q1, q2⟩ := run_loadVar (P := G.P) ht hl (a := ⟨δ.blk, off, none⟩) (f := fun j => arr.getD (off + j) undef) (fun j hj => box_cells (m := m) h2 h3 j hj)
            (fun j x hx => h4 (off + j) x (by simpa [List.getElem?_drop] using hx))
          refine ⟨u :: vs, by rw [List.mapM_cons]; simp [e1, hv, asAddr, q1], by simp [e2], fun i y' hy => ?_⟩
          cases i with
          | zero => simp at hy; subst hy; exact q2
          | succ i => exact e3 i y' (by simpa using hy)

theorem ends_of {fn : Func} {rs : List ResultVar} {ys : List A} (hres : fn.results.toList = rs) (h : ResOf G s rs ys) : Ends G fn s (retA ys) := fun K ρ a w hK hs => by
  subst hres
  obtain ⟨vs, e1, e2, e3⟩ := resOf_run hs h
  have hm : (fn.results.mapM (resVal a.tmps)).run G.P w = .ok vs.toArray w := by
    rw [Array.mapM_eq_mapM_toList]
    simp [e1]
  have hrun : (results fn a.tmps).run G.P w = .ok (if h : vs.toArray.size = 1 then vs.toArray[0] else .tuple vs.toArray) w := by
    have e : results fn a.tmps = (do let vs ← fn.results.mapM (resVal a.tmps); pure (if h : vs.size = 1 then vs[0] else .tuple vs)) := rfl
    rw [e, Sem.run_bind, hm]
    rfl
  refine ⟨_, hrun, ?_⟩
  match vs, ys, e2, e3 with
  | [v], [y], _, e3 => simpa [retA] using e3 0 y rfl
  | [], [], _, _ => exact .tup rfl (by simp)
  | v :: v' :: vs, y :: y' :: ys, e2, e3 =>
    rw [dif_neg (by simp)]
    refine .tup (by simpa using e2.symm) (fun i x hx => ?_)
    have := e3 i x hx
    simpa [Array.getD_eq_getD_getElem?, List.getD_eq_getElem?_getD] using this

/-! Weaker states -/

inductive SlLe (sl : List (Nat × A)) : List (Nat × A) → Prop where
  | nil : SlLe sl []
  | cons {t : Nat} {x y : A} {r : List (Nat × A)} (h : lk sl t = some y) (hle : A.le y x) (k : SlLe sl r) : SlLe sl ((t, x) :: r)
inductive MemLe (mem : List (Nat × Ob)) : List (Nat × Ob) → Prop where
  | nil : MemLe mem []
  | cons {m : Nat} {x y : Ob} {r : List (Nat × Ob)} (h : lk mem m = some y) (hle : Ob.le y x) (k : MemLe mem r) : MemLe mem ((m, x) :: r)
theorem SlLe.spec {sl sl' : List (Nat × A)} (h : SlLe sl sl') : ∀ p ∈ sl', ∃ y, sl.lookup p.1 = some y ∧ A.le y p.2 := by
  induction h with
  | nil => simp
  | cons h hle k ih =>
    intro p hp
    rcases List.mem_cons.1 hp with rfl | hp
    · exact ⟨_, by rw [← lk_eq]; exact h, hle⟩
    · exact ih p hp
theorem MemLe.spec {mem mem' : List (Nat × Ob)} (h : MemLe mem mem') : ∀ p ∈ mem', ∃ y, mem.lookup p.1 = some y ∧ Ob.le y p.2 := by
  induction h with
  | nil => simp
  | cons h hle k ih =>
    intro p hp
    rcases List.mem_cons.1 hp with rfl | hp
    · exact ⟨_, by rw [← lk_eq]; exact h, hle⟩
    · exact ih p hp

/-- Every name that occurs is a name of the memory. -/
def closedSt (s : St) : Bool := (s.sl.all fun p => p.2.ids.all (hasKey s.mem)) && s.mem.all fun p => p.2.ids.all (hasKey s.mem)
theorem closedSt_spec (h : closedSt s = true) : (∀ p ∈ s.sl, ∀ m ∈ p.2.ids, (s.mem.lookup m).isSome = true) ∧ (∀ p ∈ s.mem, ∀ m ∈ p.2.ids, (s.mem.lookup m).isSome = true) := by
  simp only [closedSt, Bool.and_eq_true] at h
  refine ⟨fun p hp m hm => ?_, fun p hp m hm => ?_⟩
  · exact (hasKey_iff _ _).1 (List.all_eq_true.1 (List.all_eq_true.1 h.1 p hp) m hm)
  · exact (hasKey_iff _ _).1 (List.all_eq_true.1 (List.all_eq_true.1 h.2 p hp) m hm)

theorem weak_id (h1 : SlLe s.sl s'.sl) (h2 : MemLe s.mem s'.mem) (h3 : closedSt s' = true) (h4 : s.defs = []) (h5 : s'.defs = []) : Weak id s s' :=
  ⟨fun p hp => by obtain ⟨y, a, b⟩ := h1.spec p hp; exact ⟨y, a, by rw [A.ren_id]; exact b⟩, fun p hp => by obtain ⟨y, a, b⟩ := h2.spec p hp; exact ⟨y, a, by rw [Ob.ren_id]; exact b⟩, fun p _ q _ e => e, closedSt_spec h3, h4, h5⟩
theorem weakens_id (h1 : SlLe s.sl s'.sl) (h2 : MemLe s.mem s'.mem) (h3 : closedSt s' = true) (h4 : s.defs = []) (h5 : s'.defs = []) (h6 : G.ent.all (hasKey s'.mem) = true) : Weakens G s s' :=
  ⟨id, weak_id h1 h2 h3 h4 h5, fun m hm => ⟨rfl, (hasKey_iff _ _).1 (List.all_eq_true.1 h6 m hm)⟩⟩

/-- The function ends; its names are what they were. -/
theorem fin_id {fn : Func} {e : Exit} {res y : A} {mem' : List (Nat × Ob)} (he : e = .normal ∨ e = .ret) (hE : Ends G fn s y) (hle : A.le y res) (h2 : MemLe s.mem mem') (h3 : closedSt ⟨[], mem', []⟩ = true) (hids : res.ids.all (hasKey mem') = true)
    (h4 : s.defs = []) (h6 : G.ent.all (hasKey mem') = true) : Fin G fn res mem' e s :=
  ⟨he, y, id, hE, by rw [A.ren_id]; exact hle, fun m hm => (hasKey_iff _ _).1 (List.all_eq_true.1 hids m hm), weak_id .nil h2 h3 h4 rfl, fun m hm => ⟨rfl, (hasKey_iff _ _).1 (List.all_eq_true.1 h6 m hm)⟩⟩

/-! Conditions -/

theorem AL.ifb {t : Nat} {b : Bool} (h : lk s.sl t = some (A.bool b)) (h1 : b = true → AL G ops l s Q) (h2 : b = false → AL G ops l s Q) : AL G ops l s Q := by
  cases hb : b with
  | true => exact h1 hb
  | false => exact h2 hb
theorem DW.ifb {id : Nat} {all : List Oper} {s0 : St} {done : List Tr} {t : Nat} {b : Bool} (h : lk s.sl t = some (A.bool b)) (h1 : b = true → DW G id all s0 Q done l s) (h2 : b = false → DW G id all s0 Q done l s) : DW G id all s0 Q done l s := by
  cases hb : b with
  | true => exact h1 hb
  | false => exact h2 hb
theorem AW.condb {t : Nat} {b : Bool} {x y : Code} (hl : lk s.sl t = some (A.bool b)) (h1 : b = true → AW G x s Q) (h2 : b = false → AW G y s Q) : AW G (.cond (.tmp t) x y) s Q :=
  AW.cond (by rw [← lk_eq]; exact hl) h1 h2

/-- A guard that is met, that is not met. -/
theorem OpR.onb {τ : Tr} {j d : Nat} {b c : Bool} (hg : o.guard = some (j, b)) (hd : ((ops[j]?).bind (·.dst)) = some d) (hn : d < G.n) (hl : lk sl d = some (A.bool c)) (hc : c = b) (h : OpR G o sl mem τ) : StepR G ops o sl mem (τ.under d b) := by
  subst hc; exact OpR.on hg hd hn hl h
theorem r_pickTb {c x y : Operand} {r : A} {b : Bool} (hc : ev sl c = some (A.bool b)) (hb : b = true) (he : ev sl x = some r) (hn : d < G.n) (hone : ∀ v, x = .const v → v.oneCell' = true) : OpR G ⟨some d, .pick c x y, ty, pos, af, gd⟩ sl mem ⟨rd sl [c, x], [], [(d, r)], []⟩ := by
  subst hb; exact r_pickT hc he hn hone
theorem r_pickFb {c x y : Operand} {r : A} {b : Bool} (hc : ev sl c = some (A.bool b)) (hb : b = false) (he : ev sl y = some r) (hn : d < G.n) (hone : ∀ v, y = .const v → v.oneCell' = true) : OpR G ⟨some d, .pick c x y, ty, pos, af, gd⟩ sl mem ⟨rd sl [c, y], [], [(d, r)], []⟩ := by
  subst hb; exact r_pickF hc he hn hone

/-! Calls by the same names -/

inductive HasAll (mem : List (Nat × Ob)) : List (Nat × Ob) → Prop where
  | nil : HasAll mem []
  | cons {m : Nat} {x : Ob} {r : List (Nat × Ob)} (h : lk mem m = some x) (k : HasAll mem r) : HasAll mem ((m, x) :: r)
theorem HasAll.spec {mem mem' : List (Nat × Ob)} (h : HasAll mem mem') : ∀ p ∈ mem', mem.lookup p.1 = some p.2 := by
  induction h with
  | nil => simp
  | cons h k ih =>
    intro p hp
    rcases List.mem_cons.1 hp with rfl | hp
    · rw [← lk_eq]; exact h
    · exact ih p hp
theorem allLe_id {xs ys : List A} (h : AllLe xs ys) : allLe id xs ys := by
  induction h with
  | nil => trivial
  | cons h t ih => exact ⟨by rw [A.ren_id]; exact h, ih⟩

def newOk (mem lm lm' : List (Nat × Ob)) : Bool := lm'.all fun p => hasKey lm p.1 || !hasKey mem p.1

theorem r_callId {fo : Operand} {xs : Array Operand} {ats : Array TypeId} {f : FuncId} {yc : A} {fs cs : List C} {ys args : List A} {lm lm' : List (Nat × Ob)} {res : A}
    (hsp : Spec G.P f args lm res lm') (hent : enters G.P f = true) (hf : ev sl fo = some yc) (hcal : calleeOf yc = some (f, fs, cs)) (hxs : evs sl xs.toList = some ys)
    (hone : oneAll (fo :: xs.toList) = true) (hle : AllLe (fs.map A.c ++ ys ++ cs.map A.c) args) (hids : closedIn lm args = true) (hrm : HasAll mem lm)
    (hkeys : (lm.all fun p => hasKey lm' p.1) = true) (hcl : (lm.all fun p => p.2.ids.all (hasKey lm)) = true) (hnew : newOk mem lm lm' = true) (hn : d < G.n) :
    OpR G ⟨some d, .call ⟨.value fo, xs, ats⟩, ty, pos, af, gd⟩ sl mem ⟨rd sl (fo :: xs.toList), lm, [(d, res)], lm'⟩ := by
  have h := r_call (G := G) (sl := sl) (mem := mem) (d := d) (ty := ty) (pos := pos) (af := af) (gd := gd) (fo := fo) (xs := xs) (ats := ats) id hsp hent hf hcal hxs hone (allLe_id hle) hids (rm := lm)
    ⟨fun _ _ _ _ e => e, fun m hm => ?_, fun m ob e => ⟨ob, lookup_mem e, by rw [Ob.ren_id]; exact Ob.le_refl _⟩, fun p hp m hm => List.all_eq_true.1 (List.all_eq_true.1 hcl p hp) m hm, fun p hp => ⟨p.1, (hasKey_iff _ _).2 (lookup_isSome_of_mem (v := p.2) hp), rfl⟩⟩
    hrm.spec (fun p hp hk => ?_) hn
  · rw [A.ren_id, renMem_id] at h; exact h
  · rw [hasKey_iff] at hm
    cases e : lm.lookup m with
    | none => rw [e] at hm; cases hm
    | some ob => exact List.all_eq_true.1 hkeys _ (lookup_mem e)
  · have := List.all_eq_true.1 hnew p hp
    rw [hk] at this
    simp only [Bool.false_or, Bool.not_eq_true'] at this
    cases e : mem.lookup p.1 with
    | none => exact e
    | some ob =>
      have h2 : hasKey mem p.1 = true := (hasKey_iff _ _).2 (by rw [e]; rfl)
      rw [h2] at this; cases this

/-- A function that only reads. -/
theorem r_callFun {fo : Operand} {xs : Array Operand} {ats : Array TypeId} {f : FuncId} {yc : A} {fs cs : List C} {ys args : List A} {res : A}
    (hsp : Fun G.P f args res) (hent : enters G.P f = true) (hf : ev sl fo = some yc) (hcal : calleeOf yc = some (f, fs, cs)) (hxs : evs sl xs.toList = some ys)
    (hone : oneAll (fo :: xs.toList) = true) (hle : AllLe (fs.map A.c ++ ys ++ cs.map A.c) args) (hids : closedIn [] args = true) (hn : d < G.n) :
    OpR G ⟨some d, .call ⟨.value fo, xs, ats⟩, ty, pos, af, gd⟩ sl mem ⟨rd sl (fo :: xs.toList), [], [(d, res)], []⟩ :=
  r_callId hsp hent hf hcal hxs hone hle hids .nil rfl rfl rfl hn

end Go.Am
