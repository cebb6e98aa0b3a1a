/- Rules of single operations, first part: what only computes. -/
import Derived.Test.YtihcfphmikebgaaDoorAm8
namespace Go.Am
open Go.RowKit
set_option linter.unusedVariables false
set_option linter.unusedSimpArgs false

variable {G : Gm} {Q : Exit → St → Prop} {ops : Array Oper} {o : Oper} {l : List Oper} {sl : List (Nat × A)} {mem : List (Nat × Ob)} {defs : List (Nat × List C)}

/-- An operation's transaction, and that the state has what it reads. -/
structure OpR (G : Gm) (o : Oper) (sl : List (Nat × A)) (mem : List (Nat × Ob)) (τ : Tr) : Prop where
  ok : OpOk G o τ
  rs : ∀ p ∈ τ.rs, sl.lookup p.1 = some p.2
  rm : ∀ p ∈ τ.rm, mem.lookup p.1 = some p.2
  wm : ∀ p ∈ τ.wm, p.1 ∈ τ.rm.map (·.1) ∨ mem.lookup p.1 = none

theorem OpR.plain {τ : Tr} (hg : o.guard = none) (h : OpR G o sl mem τ) : StepR G ops o sl mem τ := ⟨.plain hg h.ok, h.rs, h.rm, h.wm⟩
def Tr.under (τ : Tr) (d : Nat) (b : Bool) : Tr := ⟨(d, A.bool b) :: τ.rs, τ.rm, τ.ws, τ.wm⟩
theorem OpOk.under {τ : Tr} {d : Nat} {b : Bool} (h : OpOk G o τ) : OpOk G o (τ.under d b) := fun K hK s a w hs ht next Q hn =>
  h K hK s a w hs ⟨fun p hp => ht.rs p (List.mem_cons_of_mem _ hp), ht.rm, ht.wm⟩ next Q hn
theorem OpR.on {τ : Tr} {j d : Nat} {b : Bool} (hg : o.guard = some (j, b)) (hd : ((ops[j]?).bind (·.dst)) = some d) (hn : d < G.n) (hl : lk sl d = some (A.bool b)) (h : OpR G o sl mem τ) : StepR G ops o sl mem (τ.under d b) :=
  ⟨.on hg hd hn (by simp [Tr.under]) h.ok.under, fun p hp => by
    rcases List.mem_cons.1 hp with rfl | hp
    · rw [← lk_eq]; exact hl
    · exact h.rs p hp, h.rm, h.wm⟩
theorem StepR.off {j d x : Nat} {b c : Bool} (hg : o.guard = some (j, b)) (hd : ((ops[j]?).bind (·.dst)) = some d) (hn : d < G.n) (hl : lk sl d = some (A.bool c)) (hne : c ≠ b) (hx : o.dst = some x) (hxn : x < G.n) :
    StepR G ops o sl mem ⟨[(d, A.bool c)], [], [(x, .tup [])], []⟩ :=
  ⟨.off hg hd hn hne hx hxn, fun p hp => by simp at hp; subst hp; rw [← lk_eq]; exact hl, by simp, by simp⟩
theorem StepR.off0 {j d : Nat} {b c : Bool} (hg : o.guard = some (j, b)) (hd : ((ops[j]?).bind (·.dst)) = some d) (hn : d < G.n) (hl : lk sl d = some (A.bool c)) (hne : c ≠ b) (hx : o.dst = none) :
    StepR G ops o sl mem ⟨[(d, A.bool c)], [], [], []⟩ :=
  ⟨.off0 hg hd hn hne hx, fun p hp => by simp at hp; subst hp; rw [← lk_eq]; exact hl, by simp, by simp⟩

theorem OpR.pure {d : Nat} {rm : List (Nat × Ob)} {r : A} (xs : List Operand) (hd : o.dst = some d) (hn : d < G.n) (hrm : ∀ p ∈ rm, mem.lookup p.1 = some p.2) (hp : PureOk G o (rd sl xs) rm r) :
    OpR G o sl mem ⟨rd sl xs, rm, [(d, r)], []⟩ := ⟨hp.op hd hn, rd_ok sl xs, hrm, by simp⟩

/-- An operand that is asked of: what it tells, whatever the state is that has what was read. -/
theorem rep_of {K : Ctx} {ρ : Ren} {s : St} {a : Act} {w : World} {xs : List Operand} {x : Operand} {y : A} (hs : SimR K ρ s a w) (hrs : ∀ p ∈ rd sl xs, s.sl.lookup p.1 = some p.2) (hx : x ∈ xs)
    (hone : ∀ v, x = .const v → v.oneCell' = true) (he : ev sl x = some y) : RepA (Fs K ρ s.mem) ρ w y (a.eval x) := by
  cases x with
  | tmp t => exact hs.slots t y (hrs _ (rd_mem hx he))
  | const v => simp only [ev, Option.some.injEq] at he; subst he; exact .c (.d (.v (hone v rfl)))
  | global g => simp [ev] at he
  | func f => simp only [ev, Option.some.injEq] at he; subst he; exact .c (.d (.v rfl))

/-- The same for a plain value; nothing is asked of a constant. -/
theorem val_of {K : Ctx} {ρ : Ren} {s : St} {a : Act} {w : World} {xs : List Operand} {x : Operand} {v : Value} (hs : SimR K ρ s a w) (hrs : ∀ p ∈ rd sl xs, s.sl.lookup p.1 = some p.2) (hx : x ∈ xs)
    (he : ev sl x = some (A.val v)) : a.eval x = v := by
  cases x with
  | tmp t => exact (hs.slots t _ (hrs _ (rd_mem hx he))).val
  | const u => simp only [ev, Option.some.injEq, A.c.injEq, C.d.injEq, D.v.injEq] at he; subst he; rfl
  | global g => simp [ev] at he
  | func f => simp only [ev, Option.some.injEq, A.c.injEq, C.d.injEq, D.v.injEq] at he; subst he; rfl

variable {d : Nat} {ty : TypeId} {pos : String} {af : Array Edge} {gd : Option (Nat × Bool)}

theorem r_move {x : Operand} {r : A} (he : ev sl x = some r) (hn : d < G.n) (hone : ∀ v, x = .const v → v.oneCell' = true) : OpR G ⟨some d, .move x, ty, pos, af, gd⟩ sl mem ⟨rd sl [x], [], [(d, r)], []⟩ :=
  .pure [x] rfl hn (by simp) fun K ρ s a w hK hs hrs _ => ⟨_, by simp [execOp], rep_of hs hrs (by simp) hone he⟩
theorem r_assign {x : Operand} {r : A} (he : ev sl x = some r) (hn : d < G.n) (hone : ∀ v, x = .const v → v.oneCell' = true) : OpR G ⟨some d, .assign x, ty, pos, af, gd⟩ sl mem ⟨rd sl [x], [], [(d, r)], []⟩ :=
  .pure [x] rfl hn (by simp) fun K ρ s a w hK hs hrs _ => ⟨_, by simp [execOp], rep_of hs hrs (by simp) hone he⟩

/-- Two plain values. -/
theorem r_bin {op : BinOp} {t yt : TypeId} {x y : Operand} {u v r : Value} (hx : ev sl x = some (A.val u)) (hy : ev sl y = some (A.val v)) (hn : d < G.n) (h1 : r.oneCell' = true)
    (hrun : ∀ w, (do eqGuard op t x y u v; binOp op t u v : Sem Value).run G.P w = .ok r w) : OpR G ⟨some d, .binOp op t x y yt, ty, pos, af, gd⟩ sl mem ⟨rd sl [x, y], [], [(d, A.val r)], []⟩ :=
  .pure [x, y] rfl hn (by simp) fun K ρ s a w hK hs hrs _ => by
    have e1 := val_of hs hrs (by simp) hx
    have e2 := val_of hs hrs (by simp) hy
    refine ⟨r, ?_, .c (.d (.v h1))⟩
    have := hrun w
    simp only [execOp, e1, e2]
    simp only [Sem.run_bind] at this ⊢
    generalize Sem.run G.P (eqGuard op t x y u v) w = z at this ⊢
    cases z <;> simp_all [Result.andThen]

section runs
variable {P : Program} {t : TypeId} {x y : Operand}
theorem run_int_add (k : IntKind) (m n : Int) : ∀ w, (do eqGuard .add t x y (.int k m) (.int k n); binOp .add t (.int k m) (.int k n) : Sem Value).run P w = .ok (.int k (k.wrap (m + n))) w := fun w => by
  simp [eqGuard, binOp, Op.intArith]
theorem run_int_sub (k : IntKind) (m n : Int) : ∀ w, (do eqGuard .sub t x y (.int k m) (.int k n); binOp .sub t (.int k m) (.int k n) : Sem Value).run P w = .ok (.int k (k.wrap (m - n))) w := fun w => by
  simp [eqGuard, binOp, Op.intArith]
theorem run_int_mul (k : IntKind) (m n : Int) : ∀ w, (do eqGuard .mul t x y (.int k m) (.int k n); binOp .mul t (.int k m) (.int k n) : Sem Value).run P w = .ok (.int k (k.wrap (m * n))) w := fun w => by
  simp [eqGuard, binOp, Op.intArith]
theorem run_int_quo (k : IntKind) (m n : Int) (h : n ≠ 0) : ∀ w, (do eqGuard .quo t x y (.int k m) (.int k n); binOp .quo t (.int k m) (.int k n) : Sem Value).run P w = .ok (.int k (k.wrap (m.tdiv n))) w := fun w => by
  simp [eqGuard, binOp, Op.intDiv, h]
theorem run_int_rem (k : IntKind) (m n : Int) (h : n ≠ 0) : ∀ w, (do eqGuard .rem t x y (.int k m) (.int k n); binOp .rem t (.int k m) (.int k n) : Sem Value).run P w = .ok (.int k (m.tmod n)) w := fun w => by
  simp [eqGuard, binOp, Op.intDiv, h]
theorem run_int_eql (k : IntKind) (m n : Int) : ∀ w, (do eqGuard .eql t x y (.int k m) (.int k n); binOp .eql t (.int k m) (.int k n) : Sem Value).run P w = .ok (.bool (m == n)) w := fun w => by
  simp [eqGuard, binOp, Op.intCmp]
theorem run_int_neq (k : IntKind) (m n : Int) : ∀ w, (do eqGuard .neq t x y (.int k m) (.int k n); binOp .neq t (.int k m) (.int k n) : Sem Value).run P w = .ok (.bool (m != n)) w := fun w => by
  simp [eqGuard, binOp, Op.intCmp]
theorem run_int_lss (k : IntKind) (m n : Int) : ∀ w, (do eqGuard .lss t x y (.int k m) (.int k n); binOp .lss t (.int k m) (.int k n) : Sem Value).run P w = .ok (.bool (decide (m < n))) w := fun w => by
  simp [eqGuard, binOp, Op.intCmp]
theorem run_int_leq (k : IntKind) (m n : Int) : ∀ w, (do eqGuard .leq t x y (.int k m) (.int k n); binOp .leq t (.int k m) (.int k n) : Sem Value).run P w = .ok (.bool (decide (m ≤ n))) w := fun w => by
  simp [eqGuard, binOp, Op.intCmp]
theorem run_int_gtr (k : IntKind) (m n : Int) : ∀ w, (do eqGuard .gtr t x y (.int k m) (.int k n); binOp .gtr t (.int k m) (.int k n) : Sem Value).run P w = .ok (.bool (decide (n < m))) w := fun w => by
  simp [eqGuard, binOp, Op.intCmp]
theorem run_int_geq (k : IntKind) (m n : Int) : ∀ w, (do eqGuard .geq t x y (.int k m) (.int k n); binOp .geq t (.int k m) (.int k n) : Sem Value).run P w = .ok (.bool (decide (n ≤ m))) w := fun w => by
  simp [eqGuard, binOp, Op.intCmp]
theorem toList_beq (a b : ByteArray) : (a.toList == b.toList) = decide (a = b) := by
  by_cases h : a = b
  · subst h; simp
  · have h2 : a.toList ≠ b.toList := fun e => h (by
      have e' : a.data.toList = b.data.toList := by simpa [ByteArray.toList_eq] using e
      exact ByteArray.ext (Array.toList_inj.1 e'))
    simp [h, h2]
theorem run_str_eql (m n : ByteArray) : ∀ w, (do eqGuard .eql t x y (.string m) (.string n); binOp .eql t (.string m) (.string n) : Sem Value).run P w = .ok (.bool (decide (m = n))) w := fun w => by
  simp [eqGuard, binOp, Op.stringOp, toList_beq]
theorem run_str_neq (m n : ByteArray) : ∀ w, (do eqGuard .neq t x y (.string m) (.string n); binOp .neq t (.string m) (.string n) : Sem Value).run P w = .ok (.bool (!decide (m = n))) w := fun w => by
  simp [eqGuard, binOp, Op.stringOp, toList_beq]
theorem run_str_add (m n : ByteArray) (h : m.size + n.size ≤ 9223372036854775807) : ∀ w, (do eqGuard .add t x y (.string m) (.string n); binOp .add t (.string m) (.string n) : Sem Value).run P w = .ok (.string (m ++ n)) w := fun w => by
  have h' : ¬ ((m.size + n.size : Nat) : Int) > IntKind.i64.max := by simp only [IntKind.max, IntKind.signed, IntKind.bits]; simp; omega
  simp only [eqGuard, binOp, Op.stringOp]
  simp only [if_neg h']
  simp
end runs

theorem r_not {t : TypeId} {x : Operand} {b : Bool} (hx : ev sl x = some (A.bool b)) (hn : d < G.n) : OpR G ⟨some d, .unOp .not t x, ty, pos, af, gd⟩ sl mem ⟨rd sl [x], [], [(d, A.bool (!b))], []⟩ :=
  .pure [x] rfl hn (by simp) fun K ρ s a w hK hs hrs _ => ⟨.bool !b, by simp [execOp, val_of hs hrs (by simp) hx, Op.unary], .c (.d (.v rfl))⟩
theorem r_neg {t : TypeId} {x : Operand} {k : IntKind} {m : Int} (hx : ev sl x = some (A.val (.int k m))) (hn : d < G.n) : OpR G ⟨some d, .unOp .neg t x, ty, pos, af, gd⟩ sl mem ⟨rd sl [x], [], [(d, A.val (.int k (k.wrap (0 - m))))], []⟩ :=
  .pure [x] rfl hn (by simp) fun K ρ s a w hK hs hrs _ => ⟨_, by simp [execOp, val_of hs hrs (by simp) hx, Op.unary, Op.intArith], .c (.d (.v rfl))⟩

theorem r_pickT {c x y : Operand} {r : A} (hc : ev sl c = some (A.bool true)) (he : ev sl x = some r) (hn : d < G.n) (hone : ∀ v, x = .const v → v.oneCell' = true) : OpR G ⟨some d, .pick c x y, ty, pos, af, gd⟩ sl mem ⟨rd sl [c, x], [], [(d, r)], []⟩ :=
  .pure [c, x] rfl hn (by simp) fun K ρ s a w hK hs hrs _ => ⟨a.eval x, by simp [execOp, val_of hs hrs (by simp) hc, asBool], rep_of hs hrs (by simp) hone he⟩
theorem r_pickF {c x y : Operand} {r : A} (hc : ev sl c = some (A.bool false)) (he : ev sl y = some r) (hn : d < G.n) (hone : ∀ v, y = .const v → v.oneCell' = true) : OpR G ⟨some d, .pick c x y, ty, pos, af, gd⟩ sl mem ⟨rd sl [c, y], [], [(d, r)], []⟩ :=
  .pure [c, y] rfl hn (by simp) fun K ρ s a w hK hs hrs _ => ⟨a.eval y, by simp [execOp, val_of hs hrs (by simp) hc, asBool], rep_of hs hrs (by simp) hone he⟩

/-- Whole numbers of another kind. -/
theorem r_conv {t u : TypeId} {x : Operand} {k k' : IntKind} {m : Int} (ht : G.P.underlying t = some (.int k)) (hu : G.P.underlying u = some (.int k')) (hx : ev sl x = some (A.val (.int k m))) (hn : d < G.n) :
    OpR G ⟨some d, .convert t u x, ty, pos, af, gd⟩ sl mem ⟨rd sl [x], [], [(d, A.val (.int k' (k'.wrap m)))], []⟩ :=
  .pure [x] rfl hn (by simp) fun K ρ s a w hK hs hrs _ => ⟨_, by simp [execOp, val_of hs hrs (by simp) hx, convert, run_underlying ht, run_underlying hu, Conv.intToInt], .c (.d (.v rfl))⟩

theorem r_extract {x : Operand} {l : List A} {i : Nat} {r : A} (hx : ev sl x = some (.tup l)) (hi : l[i]? = some r) (hn : d < G.n) : OpR G ⟨some d, .extract x i, ty, pos, af, gd⟩ sl mem ⟨rd sl [x], [], [(d, r)], []⟩ :=
  .pure [x] rfl hn (by simp) fun K ρ s a w hK hs hrs _ => by
    have h := rep_of hs hrs (by simp) (fun v e => by subst e; simp [ev] at hx) hx
    generalize hv : a.eval x = v at h
    cases h with
    | tup h1 h2 =>
      rename_i vs
      have hlt : i < vs.size := by rw [← h1]; exact (List.getElem?_eq_some_iff.1 hi).1
      refine ⟨vs.getD i undef, ?_, h2 i r hi⟩
      simp only [execOp, hv, Instr.extract]
      simp [Array.getD_eq_getD_getElem?, Array.getElem?_eq_getElem hlt]

theorem r_makeFunc {fn : Fn} {fs cs : Array Operand} {xs ys : List C} (hf : fs.toList.map (ev sl) = xs.map (fun x => some (A.c x))) (hc : cs.toList.map (ev sl) = ys.map (fun x => some (A.c x))) (hn : d < G.n)
    (hone : ∀ v, Operand.const v ∈ fs.toList ++ cs.toList → v.oneCell' = true) : OpR G ⟨some d, .makeFunc fn fs cs, ty, pos, af, gd⟩ sl mem ⟨rd sl (fs.toList ++ cs.toList), [], [(d, .c (.clo fn xs ys))], []⟩ :=
  .pure (fs.toList ++ cs.toList) rfl hn (by simp) fun K ρ s a w hK hs hrs _ => by
    have key : ∀ (l : Array Operand) (zs : List C), (∀ x ∈ l.toList, x ∈ fs.toList ++ cs.toList) → l.toList.map (ev sl) = zs.map (fun x => some (A.c x)) → zs.length = (l.map a.eval).size ∧ ∀ (i : Nat) (x : C), zs[i]? = some x → RepC (Fs K ρ s.mem) ρ w x ((l.map a.eval).getD i undef) := by
      intro l zs hsub he
      have hlen : l.size = zs.length := by have := congrArg List.length he; simpa using this
      refine ⟨by simp [hlen], fun i x hx => ?_⟩
      have hi : i < l.size := by rw [hlen]; exact (List.getElem?_eq_some_iff.1 hx).1
      have := congrArg (fun z => z[i]?) he
      simp only [List.getElem?_map, hx, Option.map_some, Array.getElem?_toList, Array.getElem?_eq_getElem hi, Option.some.injEq] at this
      have hr := rep_of hs hrs (hsub l[i] (by simp)) (fun v e => hone v (e ▸ hsub l[i] (by simp))) this
      have e : (l.map a.eval).getD i undef = a.eval l[i] := by simp [Array.getD_eq_getD_getElem?, hi]
      rw [e]
      cases hr with | c h => exact h
    obtain ⟨a1, a2⟩ := key fs xs (fun x hx => List.mem_append.2 (.inl hx)) hf
    obtain ⟨b1, b2⟩ := key cs ys (fun x hx => List.mem_append.2 (.inr hx)) hc
    exact ⟨_, by simp [execOp, Instr.makeFunc], .c (.clo a1 b1 a2 b2)⟩

/-- What a slot holds, of which the slice's length is known. -/
inductive LenOf : A → Nat → Prop where
  | str {s : ByteArray} : LenOf (A.val (.string s)) s.size
  | nil : LenOf (A.val (.slice none 0 0)) 0
  | sl {nn : Bool} {rows : List (List D)} : LenOf (.c (.d (.sl nn rows))) rows.length
  | own {m : Nat} {rows : List (List D)} : LenOf (.c (.own m rows)) rows.length
  | row {m n : Nat} : LenOf (.c (.row m n)) n

theorem LenOf.run {K : Ctx} {F : Loc} {ρ : Ren} {w : World} {x : A} {n : Nat} {v : Value} {P : Program} {t e : TypeId} (h : LenOf x n) (hr : RepA F ρ w x v) (ht : P.underlying t = some .string ∨ P.underlying t = some (.slice e)) (hs : (∃ s, x = A.val (.string s)) ↔ P.underlying t = some .string) :
    (Builtin.len_ #[t] ty #[v]).run P w = .ok (.int .i64 n) w := by
  cases h with
  | str =>
    have := hr.val; subst this
    rw [show P.underlying t = some .string from hs.1 ⟨_, rfl⟩] at ht
    simp [Builtin.len_, run_underlying (hs.1 ⟨_, rfl⟩), goInt]
  | nil =>
    have := hr.val; subst this
    have ht' : P.underlying t = some (.slice e) := ht.resolve_left (fun h => by obtain ⟨s, hx⟩ := hs.2 h; cases hx)
    simp [Builtin.len_, run_underlying ht', goInt]
  | sl =>
    have ht' : P.underlying t = some (.slice e) := ht.resolve_left (fun h => by obtain ⟨s, hx⟩ := hs.2 h; cases hx)
    cases hr with | c h => cases h with | d h => cases h <;> simp [Builtin.len_, run_underlying ht', goInt]
  | own =>
    have ht' : P.underlying t = some (.slice e) := ht.resolve_left (fun h => by obtain ⟨s, hx⟩ := hs.2 h; cases hx)
    cases hr with | c h => cases h with
      | own h hl hr => simp [Builtin.len_, run_underlying ht', goInt, hl]
      | ownNil => simp [Builtin.len_, run_underlying ht', goInt]
  | row =>
    have ht' : P.underlying t = some (.slice e) := ht.resolve_left (fun h => by obtain ⟨s, hx⟩ := hs.2 h; cases hx)
    cases hr with | c h => cases h; simp [Builtin.len_, run_underlying ht', goInt]

theorem r_len {t e : TypeId} {x : Operand} {y : A} {n : Nat} (ht : G.P.underlying t = some (.slice e)) (hx : ev sl x = some y) (hl : LenOf y n) (hns : ∀ s, y ≠ A.val (.string s)) (hn : d < G.n) (hone : ∀ v, x = .const v → v.oneCell' = true) :
    OpR G ⟨some d, .call ⟨.builtin .len, #[x], #[t]⟩, ty, pos, af, gd⟩ sl mem ⟨rd sl [x], [], [(d, A.i64 n)], []⟩ :=
  .pure [x] rfl hn (by simp) fun K ρ s a w hK hs hrs _ => by
    have hr := rep_of hs hrs (by simp) hone hx
    have := hl.run (K := K) (ty := ty) hr (.inr ht) ⟨fun ⟨s, e⟩ => absurd e (hns s), fun e => by rw [ht] at e; cases e⟩
    exact ⟨_, by simp [execOp, resolve, invoke, builtin, this], .c (.d (.v rfl))⟩
theorem r_lens {t : TypeId} {x : Operand} {b : ByteArray} (ht : G.P.underlying t = some .string) (hx : ev sl x = some (A.val (.string b))) (hn : d < G.n) :
    OpR G ⟨some d, .call ⟨.builtin .len, #[x], #[t]⟩, ty, pos, af, gd⟩ sl mem ⟨rd sl [x], [], [(d, A.i64 b.size)], []⟩ :=
  .pure [x] rfl hn (by simp) fun K ρ s a w hK hs hrs _ => by
    refine ⟨_, by simp [execOp, resolve, invoke, builtin, val_of hs hrs (by simp) hx, Builtin.len_, run_underlying ht, goInt], .c (.d (.v rfl))⟩

/-- A byte of a string. -/
theorem r_byte {t : TypeId} {x i : Operand} {b : ByteArray} {k : IntKind} {j : Int} (ht : G.P.underlying t = some .string) (hx : ev sl x = some (A.val (.string b))) (hi : ev sl i = some (A.val (.int k j))) (hn : d < G.n) (h0 : 0 ≤ j) (h1 : j.toNat < b.size) :
    OpR G ⟨some d, .index t x i, ty, pos, af, gd⟩ sl mem ⟨rd sl [x, i], [], [(d, A.val (.int .u8 (b[j.toNat]'h1).toNat))], []⟩ :=
  .pure [x, i] rfl hn (by simp) fun K ρ s a w hK hs hrs _ => by
    refine ⟨_, by simp [execOp, val_of hs hrs (by simp) hx, val_of hs hrs (by simp) hi, Instr.index, asIntOf, run_underlying ht, h0, getElem?_pos b j.toNat h1], .c (.d (.v rfl))⟩

/-- A piece of a string. -/
theorem r_substr {t : TypeId} {x lo hi : Operand} {b : ByteArray} {k k' : IntKind} {i j : Int} (ht : G.P.underlying t = some .string) (hx : ev sl x = some (A.val (.string b))) (hlo : ev sl lo = some (A.val (.int k i))) (hhi : ev sl hi = some (A.val (.int k' j))) (hn : d < G.n)
    (h0 : 0 ≤ i) (h1 : i ≤ j) (h2 : j ≤ b.size) :
    OpR G ⟨some d, .slice t x (some lo) (some hi) none, ty, pos, af, gd⟩ sl mem ⟨rd sl [x, lo, hi], [], [(d, A.val (.string (b.extract i.toNat j.toNat)))], []⟩ :=
  .pure [x, lo, hi] rfl hn (by simp) fun K ρ s a w hK hs hrs _ => by
    have e1 : 0 ≤ j := by omega
    have e2 : i ≤ (j.toNat : Int) := by omega
    have e3 : ¬ (max j 0 < i) := by omega
    refine ⟨_, by simp [e3, execOp, val_of hs hrs (by simp) hx, val_of hs hrs (by simp) hlo, val_of hs hrs (by simp) hhi, Instr.sliceAt, Instr.slice, Instr.sliceBounds, Instr.sliceBound, asIntOf, run_underlying ht, h0, h2, e1, e2], .c (.d (.v rfl))⟩
theorem r_substrFrom {t : TypeId} {x lo : Operand} {b : ByteArray} {k : IntKind} {i : Int} (ht : G.P.underlying t = some .string) (hx : ev sl x = some (A.val (.string b))) (hi : ev sl lo = some (A.val (.int k i))) (hn : d < G.n)
    (h0 : 0 ≤ i) (h1 : i ≤ b.size) :
    OpR G ⟨some d, .slice t x (some lo) none none, ty, pos, af, gd⟩ sl mem ⟨rd sl [x, lo], [], [(d, A.val (.string (b.extract i.toNat b.size)))], []⟩ :=
  .pure [x, lo] rfl hn (by simp) fun K ρ s a w hK hs hrs _ => by
    refine ⟨_, by simp [execOp, val_of hs hrs (by simp) hx, val_of hs hrs (by simp) hi, Instr.sliceAt, Instr.slice, Instr.sliceBounds, Instr.sliceBound, asIntOf, run_underlying ht, h0, h1], .c (.d (.v rfl))⟩
theorem r_substrTo {t : TypeId} {x hi : Operand} {b : ByteArray} {k : IntKind} {j : Int} (ht : G.P.underlying t = some .string) (hx : ev sl x = some (A.val (.string b))) (hj : ev sl hi = some (A.val (.int k j))) (hn : d < G.n)
    (h0 : 0 ≤ j) (h1 : j ≤ b.size) :
    OpR G ⟨some d, .slice t x none (some hi) none, ty, pos, af, gd⟩ sl mem ⟨rd sl [x, hi], [], [(d, A.val (.string (b.extract 0 j.toNat)))], []⟩ :=
  .pure [x, hi] rfl hn (by simp) fun K ρ s a w hK hs hrs _ => by
    refine ⟨_, by simp [execOp, val_of hs hrs (by simp) hx, val_of hs hrs (by simp) hj, Instr.sliceAt, Instr.slice, Instr.sliceBounds, Instr.sliceBound, asIntOf, run_underlying ht, h0, h1], .c (.d (.v rfl))⟩

end Go.Am
