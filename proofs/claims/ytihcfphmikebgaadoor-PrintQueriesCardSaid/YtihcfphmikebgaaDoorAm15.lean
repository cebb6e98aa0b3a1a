/- Rules, third part: exact numbers, least and greatest, append, and how paths go on. -/
import Derived.Test.YtihcfphmikebgaaDoorAm14
namespace Go.Am
open Go.RowKit
set_option linter.unusedVariables false
set_option linter.unusedSimpArgs false

variable {G : Gm} {Q : Exit → St → Prop} {ops : Array Oper} {o : Oper} {l : List Oper} {sl : List (Nat × A)} {mem : List (Nat × Ob)} {defs : List (Nat × List C)}
variable {d : Nat} {ty : TypeId} {pos : String} {af : Array Edge} {gd : Option (Nat × Bool)} {K : Ctx} {ρ ρ' : Ren} {w w' : World} {F : Loc} {s s' : St} {a : Act}

/-! How a path goes on -/
theorem thenN {N : St → Prop} (h : N s) : Then N Q .normal s := h
theorem thenR {N : St → Prop} (h : Q .ret s) : Then N Q .ret s := h
theorem thenX {N : St → Prop} {i : Nat} (h : Q (.exit i) s) : Then N Q (.exit i) s := h
theorem inbN {i : Nat} (h : Q .normal s) : InB i Q .normal s := h
theorem inbR {i : Nat} (h : Q .ret s) : InB i Q .ret s := h
theorem inbE {i : Nat} (h : Q .normal s) : InB i Q (.exit i) s := by simp only [InB, if_true]; exact h
theorem inbX {i j : Nat} (hne : i ≠ j) (h : Q (.exit j) s) : InB i Q (.exit j) s := by simp only [InB]; rw [if_neg (Ne.symm hne)]; exact h
theorem AW.condT {t : Nat} {b : Bool} {x y : Code} (hl : lk s.sl t = some (A.bool b)) (hb : b = true) (h1 : AW G x s Q) : AW G (.cond (.tmp t) x y) s Q :=
  AW.condb hl (fun _ => h1) (fun h => by rw [hb] at h; cases h)
theorem AW.condF {t : Nat} {b : Bool} {x y : Code} (hl : lk s.sl t = some (A.bool b)) (hb : b = false) (h2 : AW G y s Q) : AW G (.cond (.tmp t) x y) s Q :=
  AW.condb hl (fun h => by rw [hb] at h; cases h) (fun _ => h2)

/-! Numbers -/
theorem wrap_i64 {n : Int} (h0 : -9223372036854775808 ≤ n) (h1 : n ≤ 9223372036854775807) : IntKind.i64.wrap n = n := by
  simp only [IntKind.wrap, IntKind.signed, IntKind.bits]
  simp
  omega

theorem r_add {t yt : TypeId} {x y : Operand} {m n : Int} (hx : ev sl x = some (A.i64 m)) (hy : ev sl y = some (A.i64 n)) (hn : d < G.n) (h0 : -9223372036854775808 ≤ m + n) (h1 : m + n ≤ 9223372036854775807) :
    OpR G ⟨some d, .binOp .add t x y yt, ty, pos, af, gd⟩ sl mem ⟨rd sl [x, y], [], [(d, A.i64 (m + n))], []⟩ :=
  r_bin hx hy hn rfl (by have := run_int_add (P := G.P) (t := t) (x := x) (y := y) .i64 m n; rw [wrap_i64 h0 h1] at this; exact this)
theorem r_sub {t yt : TypeId} {x y : Operand} {m n : Int} (hx : ev sl x = some (A.i64 m)) (hy : ev sl y = some (A.i64 n)) (hn : d < G.n) (h0 : -9223372036854775808 ≤ m - n) (h1 : m - n ≤ 9223372036854775807) :
    OpR G ⟨some d, .binOp .sub t x y yt, ty, pos, af, gd⟩ sl mem ⟨rd sl [x, y], [], [(d, A.i64 (m - n))], []⟩ :=
  r_bin hx hy hn rfl (by have := run_int_sub (P := G.P) (t := t) (x := x) (y := y) .i64 m n; rw [wrap_i64 h0 h1] at this; exact this)
theorem r_mul {t yt : TypeId} {x y : Operand} {m n : Int} (hx : ev sl x = some (A.i64 m)) (hy : ev sl y = some (A.i64 n)) (hn : d < G.n) (h0 : -9223372036854775808 ≤ m * n) (h1 : m * n ≤ 9223372036854775807) :
    OpR G ⟨some d, .binOp .mul t x y yt, ty, pos, af, gd⟩ sl mem ⟨rd sl [x, y], [], [(d, A.i64 (m * n))], []⟩ :=
  r_bin hx hy hn rfl (by have := run_int_mul (P := G.P) (t := t) (x := x) (y := y) .i64 m n; rw [wrap_i64 h0 h1] at this; exact this)

theorem r_notb {t : TypeId} {x : Operand} {b c : Bool} (hx : ev sl x = some (A.bool b)) (hb : b = c) (hn : d < G.n) : OpR G ⟨some d, .unOp .not t x, ty, pos, af, gd⟩ sl mem ⟨rd sl [x], [], [(d, A.bool (!c))], []⟩ := by
  subst hb; exact r_not hx hn

theorem r_max {x y : Operand} {ats : Array TypeId} {k : IntKind} {m n : Int} (hx : ev sl x = some (A.val (.int k m))) (hy : ev sl y = some (A.val (.int k n))) (hn : d < G.n) :
    OpR G ⟨some d, .call ⟨.builtin .max, #[x, y], ats⟩, ty, pos, af, gd⟩ sl mem ⟨rd sl [x, y], [], [(d, A.val (.int k (max m n)))], []⟩ :=
  .pure [x, y] rfl hn (by simp) fun K ρ s a w hK hs hrs _ => by
    refine ⟨.int k (max m n), ?_, .c (.d (.v rfl))⟩
    have e : (if n > m then n else m) = max m n := by split <;> omega
    simp [execOp, resolve, invoke, builtin, val_of hs hrs (by simp) hx, val_of hs hrs (by simp) hy, Builtin.max_, Builtin.max2, e]
theorem r_min {x y : Operand} {ats : Array TypeId} {k : IntKind} {m n : Int} (hx : ev sl x = some (A.val (.int k m))) (hy : ev sl y = some (A.val (.int k n))) (hn : d < G.n) :
    OpR G ⟨some d, .call ⟨.builtin .min, #[x, y], ats⟩, ty, pos, af, gd⟩ sl mem ⟨rd sl [x, y], [], [(d, A.val (.int k (min m n)))], []⟩ :=
  .pure [x, y] rfl hn (by simp) fun K ρ s a w hK hs hrs _ => by
    refine ⟨.int k (min m n), ?_, .c (.d (.v rfl))⟩
    have e : (if n < m then n else m) = min m n := by split <;> omega
    simp [execOp, resolve, invoke, builtin, val_of hs hrs (by simp) hx, val_of hs hrs (by simp) hy, Builtin.min_, Builtin.min2, e]

/-! Append -/

theorem SimR.nilPerm (h : SimR K ρ s a w) {m k : Nat} {e : TypeId} (hm : s.mem.lookup m = none) : SimR K (ρ.set m ⟨0, 0, 0⟩) { s with mem := (m, .perm k e) :: s.mem } a w := by
  have hle := Ren.le_set (h.dom m hm) ⟨0, 0, 0⟩
  have hWr : ∀ g o, Wr (ρ.set m ⟨0, 0, 0⟩) ((m, .perm k e) :: s.mem) g o ↔ Wr ρ s.mem g o := fun g o => by
    rw [Wr.cons_new hm]
    simp only [Ob.wr]
    constructor
    · rintro (⟨_, _, h3⟩ | h3)
      · simp at h3
      · exact h3
    · exact .inr
  have hFs : Fs K (ρ.set m ⟨0, 0, 0⟩) ((m, .perm k e) :: s.mem) = Fs K ρ s.mem := by
    funext g o; simp only [Fs, hWr]
  have hst : Stays (Fs K ρ s.mem) w (Fs K (ρ.set m ⟨0, 0, 0⟩) ((m, .perm k e) :: s.mem)) w := by rw [hFs]; exact Stays.refl _ _
  have key : ∀ {i : Nat} {ob : Ob}, List.lookup i ((m, .perm k e) :: s.mem) = some ob → (i = m ∧ ob = .perm k e) ∨ (i ≠ m ∧ s.mem.lookup i = some ob) := fun {i ob} hi => by
    rw [lookup_cons] at hi
    by_cases e' : i = m
    · rw [if_pos e'] at hi; cases hi; exact .inl ⟨e', rfl⟩
    · rw [if_neg e'] at hi; exact .inr ⟨e', hi⟩
  refine h.move hle hst (fun i ob hi => ?_) (fun i hi => ?_) (fun i i' ob ob' δ δ' g o h1 h2 r1 r2 n1 n2 => ?_) (fun g o hw => h.wr g o ((hWr g o).1 hw)) h.fr
  · rcases key hi with ⟨rfl, rfl⟩ | ⟨hne, hi⟩
    · exact .permNil (Ren.set_same _ _ _) rfl
    · exact (h.mem i ob hi).stays hst hle (.of_eq fun _ _ => rfl) (fun _ _ _ => rfl)
  · rw [lookup_cons] at hi
    by_cases e' : i = m
    · rw [if_pos e'] at hi; cases hi
    · rw [if_neg e'] at hi; rw [Ren.set_other ρ _ e']; exact h.dom i hi
  · rcases key h1 with ⟨rfl, rfl⟩ | ⟨hne, h1⟩
    · rw [Ren.set_same] at r1; cases r1; simp [Ob.wr] at n1
    · rcases key h2 with ⟨rfl, rfl⟩ | ⟨hne', h2⟩
      · rw [Ren.set_same] at r2; cases r2; simp [Ob.wr] at n2
      · rw [Ren.set_other ρ _ hne] at r1; rw [Ren.set_other ρ _ hne'] at r2
        exact h.dist i i' ob ob' δ δ' g o h1 h2 r1 r2 n1 n2

/-- What may be appended. -/
inductive SrcOf : A → List (List D) → Prop where
  | sl {nn : Bool} {rows : List (List D)} : SrcOf (.c (.d (.sl nn rows))) rows
  | own {m : Nat} {rows : List (List D)} : SrcOf (.c (.own m rows)) rows
  | nil : SrcOf (A.val (.slice none 0 0)) []
theorem SrcOf.rep {y : A} {rows : List (List D)} {v : Value} (h : SrcOf y rows) (hr : RepA F ρ w y v) : RepD F w (.sl false rows) v := by
  cases h with
  | sl => cases hr with | c hr => cases hr with | d hr => exact hr.weakNn
  | own => cases hr with | c hr => exact hr.ownD
  | nil => rw [hr.val]; exact .sl0 none 0 (by simp)

/-- Append to a slice of one's own. -/
theorem r_append {t e : TypeId} {x y : Operand} {u : A} {m k b : Nat} {g : Bool} {z : Value} {rows rows2 : List (List D)} (m' : Nat) (ht : G.P.underlying t = some (.slice e)) (hti : tinf G.P e = some (k, b, g, some z)) (hzk : z.cells.size = k)
    (hx : ev sl x = some (.c (.own m rows))) (hm : lk mem m = some (.perm k e)) (hy : ev sl y = some u) (hu : SrcOf u rows2) (hone : oneAll [x, y] = true) (hk1 : ∀ r ∈ rows, r.length = k) (hk2 : ∀ r ∈ rows2, r.length = k) (hm' : lk mem m' = none)
    (h63 : rows.length + rows2.length ≤ maxLen) (hbytes : (rows.length + rows2.length) * b ≤ 140737488355328) (hn : d < G.n) :
    OpR G ⟨some d, .call ⟨.builtin .append, #[x, y], #[t, t]⟩, ty, pos, af, gd⟩ sl mem ⟨rd sl [x, y], [(m, .perm k e)], [(d, .c (.own m' (rows ++ rows2)))], [(m', .perm k e), (m, .gone)]⟩ where
  rs := rd_ok sl _
  rm := fun p hp => by simp at hp; subst hp; rw [← lk_eq]; exact hm
  wm := fun p hp => by
    simp only [List.mem_cons, List.not_mem_nil, or_false] at hp
    rcases hp with rfl | rfl
    · right; rw [← lk_eq]; exact hm'
    · left; simp
  ok := fun K hK s a w hs htr next Q hnx => by
    obtain ⟨ρ, hr⟩ := hs
    obtain ⟨it, i1, i2, i3, i4⟩ := tinf_info hti
    have h1 := rep_of hr htr.rs (by simp) (oneAll_spec hone (by simp)) hx
    have h2 := hu.rep (rep_of hr htr.rs (by simp) (oneAll_spec hone (by simp)) hy)
    have hsm := htr.rm (m, .perm k e) (by simp)
    have hne : m' ≠ m := fun e' => by rw [e', hm] at hm'; cases hm'
    have hsm' : s.mem.lookup m' = none := by
      rcases htr.wm (m', .perm k e) (by simp) with hh | hh
      · simp at hh; exact absurd hh hne
      · exact hh
    cases h1 with | c h1 =>
    obtain ⟨v1, w1, ρ1, q1, q2, q3, q4, q5, _⟩ := hr.grow (P := G.P) (ty := ty) ht i1 i4 i2 i3 hzk h1 hsm hsm' h2 hk1 hk2 h63 hbytes
    unfold Oper.wp
    have hrun : (execOp a.eval ⟨some d, .call ⟨.builtin .append, #[x, y], #[t, t]⟩, ty, pos, af, gd⟩).run G.P w = .ok (.value v1) w1 := by
      simp [execOp, resolve, invoke, builtin, q1]
    rw [hrun, Oper.upon_value]
    exact hnx _ _ ⟨ρ1, q4.put (by rw [hK.1]; exact hn) (.c q5)⟩

/-- Append to nil. -/
theorem r_appendNil {t e : TypeId} {x y : Operand} {u : A} {k b : Nat} {g : Bool} {z : Value} {rows2 : List (List D)} (m m' : Nat) (ht : G.P.underlying t = some (.slice e)) (hti : tinf G.P e = some (k, b, g, some z)) (hzk : z.cells.size = k)
    (hx : ev sl x = some (A.val (.slice none 0 0))) (hy : ev sl y = some u) (hu : SrcOf u rows2) (hone : oneAll [x, y] = true) (hk2 : ∀ r ∈ rows2, r.length = k) (hm : lk mem m = none) (hm' : lk mem m' = none) (hne : m' ≠ m)
    (h63 : rows2.length ≤ maxLen) (hbytes : rows2.length * b ≤ 140737488355328) (hn : d < G.n) :
    OpR G ⟨some d, .call ⟨.builtin .append, #[x, y], #[t, t]⟩, ty, pos, af, gd⟩ sl mem ⟨rd sl [x, y], [], [(d, .c (.own m' rows2))], [(m', .perm k e), (m, .gone)]⟩ where
  rs := rd_ok sl _
  rm := by simp
  wm := fun p hp => by
    simp only [List.mem_cons, List.not_mem_nil, or_false] at hp
    rcases hp with rfl | rfl
    · right; rw [← lk_eq]; exact hm'
    · right; rw [← lk_eq]; exact hm
  ok := fun K hK s a w hs htr next Q hnx => by
    obtain ⟨ρ, hr⟩ := hs
    obtain ⟨it, i1, i2, i3, i4⟩ := tinf_info hti
    have h1 := val_of hr htr.rs (by simp) hx
    have hsm : s.mem.lookup m = none := by
      rcases htr.wm (m, .gone) (by simp) with hh | hh
      · simp at hh
      · exact hh
    have hsm' : s.mem.lookup m' = none := by
      rcases htr.wm (m', .perm k e) (by simp) with hh | hh
      · simp at hh
      · exact hh
    have hr0 := hr.nilPerm (k := k) (e := e) hsm
    have h2 := hu.rep (rep_of hr0 (s := { s with mem := (m, .perm k e) :: s.mem }) htr.rs (by simp) (oneAll_spec hone (by simp)) hy)
    obtain ⟨v1, w1, ρ1, q1, q2, q3, q4, q5, _⟩ := hr0.grow (P := G.P) (ty := ty) (m := m) (m' := m') (rows := []) (v := .slice none 0 0) ht i1 i4 i2 i3 hzk (.ownNil (Ren.set_same _ _ _) rfl) (by rw [lookup_cons]; simp) (by rw [lookup_cons, if_neg hne]; exact hsm') h2 (by simp) hk2 (by simpa using h63) (by simpa using hbytes)
    unfold Oper.wp
    have hrun : (execOp a.eval ⟨some d, .call ⟨.builtin .append, #[x, y], #[t, t]⟩, ty, pos, af, gd⟩).run G.P w = .ok (.value v1) w1 := by
      simp [execOp, resolve, invoke, builtin, h1, q1]
    rw [hrun, Oper.upon_value]
    have hsim := q4.put (by rw [hK.1]; exact hn) (.c q5)
    refine hnx _ _ (Sim.like ⟨ρ1, hsim⟩ ⟨fun _ => rfl, fun i => ?_, rfl⟩)
    simp only [St.app, lookup_append, lookup_cons]
    by_cases e1 : i = m'
    · simp [e1]
    · by_cases e2 : i = m
      · simp [e2, Ne.symm hne]
      · simp [e1, e2]

/-- An empty slice that one may append to. -/
theorem r_buildOwn {t e : TypeId} {k b : Nat} {g : Bool} {z : Option Value} (m : Nat) (ht : G.P.underlying t = some (.slice e)) (hti : tinf G.P e = some (k, b, g, z)) (hm : lk mem m = none) (hn : d < G.n) :
    OpR G ⟨some d, .buildSlice t 0 #[], ty, pos, af, gd⟩ sl mem ⟨rd sl [], [], [(d, .c (.own m []))], [(m, .perm k e)]⟩ where
  rs := rd_ok sl _
  rm := by simp
  wm := fun p hp => by simp at hp; subst hp; right; rw [← lk_eq]; exact hm
  ok := fun K hK s a w hs htr next Q hnx => by
    obtain ⟨ρ, hr⟩ := hs
    have hsm : s.mem.lookup m = none := by
      rcases htr.wm (m, .perm k e) (by simp) with hh | hh
      · simp at hh
      · exact hh
    have hrun : (execOp a.eval ⟨some d, .buildSlice t 0 #[], ty, pos, af, gd⟩).run G.P w = .ok (.value (.slice (some ⟨w.heap.size, 0, none⟩) 0 0)) (w.alloc (.cells #[] e)) := by
      simp [execOp, Instr.buildSlice, run_underlying ht, run_sizeOf hti, Instr.fill, newRow]
      congr 2
      exact Array.eq_empty_of_size_eq_zero (by simp)
    unfold Oper.wp
    rw [hrun, Oper.upon_value]
    have hf := hr.fresh (m := m) (ob := .perm k e) (δ := ⟨w.heap.size, 0, 0⟩) (arr := #[]) (t := e) hsm (fun g o h => h.1) (fun F' _ _ => .perm (Ren.set_same _ _ _) (alloc_heap_new w _) (Nat.le_refl _) (by simp [maxLen]) (by simp))
    exact hnx _ _ ⟨_, hf.put (by rw [hK.1]; exact hn) (.c (.own (Ren.set_same _ _ _) rfl (.sl0 _ _ (by simp))))⟩

/-- A slice that is not nil, asked whether it is. -/
theorem r_sliceNilF {t yt e : TypeId} {x : Operand} {u : A} (ht : G.P.underlying t = some (.slice e)) (hx : ev sl x = some u) (hu : (∃ rows, u = .c (.d (.sl true rows))) ∨ ∃ nn r rows, u = .c (.d (.sl nn (r :: rows)))) (hone : oneAll [x] = true) (hn : d < G.n) :
    OpR G ⟨some d, .binOp .eql t x (.const (.slice none 0 0)) yt, ty, pos, af, gd⟩ sl mem ⟨rd sl [x], [], [(d, A.bool false)], []⟩ :=
  .pure [x] rfl hn (by simp) fun K ρ s a w hK hs hrs _ => by
    have hr := rep_of hs hrs (by simp) (oneAll_spec hone (by simp)) hx
    generalize hv : a.eval x = v at hr
    have hsl : ∃ p n c, v = .slice (some p) n c := by
      rcases hu with ⟨rows, rfl⟩ | ⟨nn, r, rows, rfl⟩
      · cases hr with | c hr => cases hr with | d hr => cases hr with
          | sl0 aa c hn =>
            cases aa with
            | none => simp at hn
            | some p => exact ⟨_, _, _, rfl⟩
          | sl => exact ⟨_, _, _, rfl⟩
      · cases hr with | c hr => cases hr with | d hr => cases hr with
          | sl => exact ⟨_, _, _, rfl⟩
    obtain ⟨p, n, c, rfl⟩ := hsl
    refine ⟨.bool false, ?_, .c (.d (.v rfl))⟩
    have e1 : binOp .eql t (.slice (some p) n c) (.slice none 0 0) = (do pure (.bool (← Op.equal t (.slice (some p) n c) (.slice none 0 0)))) := rfl
    have e2 : eqGuard .eql t x (.const (.slice none 0 0)) (.slice (some p) n c) (.slice none 0 0) = pure () := rfl
    have e3 : (Op.equal t (.slice (some p) n c) (.slice none 0 0)).run G.P w = .ok false w := by
      unfold Op.equal
      obtain ⟨n', hn'⟩ : ∃ n, Op.maxDepth = n + 1 := ⟨9999, rfl⟩
      rw [hn']
      simp only [Op.equalIn, Sem.run_bind, run_underlying ht, Result.andThen_ok, Sem.run_pure]
    have e4 : a.eval (.const (.slice none 0 0)) = .slice none 0 0 := rfl
    simp only [execOp, hv, e4, e1, e2, Sem.run_bind, Sem.run_pure, Result.andThen_ok, e3]


/-- A byte of a string, whatever the place. -/
def bAt (b : ByteArray) (i : Nat) : UInt8 := (b.data[i]?).getD 0
theorem bAt_eq {b : ByteArray} {i : Nat} (h : i < b.size) : b[i] = bAt b i := by
  unfold bAt
  rw [Array.getElem?_eq_getElem (show i < b.data.size from h)]
  rfl
theorem r_byteD {t : TypeId} {x i : Operand} {b : ByteArray} {k : IntKind} {j : Int} (ht : G.P.underlying t = some .string) (hx : ev sl x = some (A.val (.string b))) (hi : ev sl i = some (A.val (.int k j))) (hn : d < G.n) (h0 : 0 ≤ j) (h1 : j < b.size) :
    OpR G ⟨some d, .index t x i, ty, pos, af, gd⟩ sl mem ⟨rd sl [x, i], [], [(d, A.val (.int .u8 (bAt b j.toNat).toNat))], []⟩ := by
  have h := r_byte (G := G) (sl := sl) (mem := mem) (d := d) (ty := ty) (pos := pos) (af := af) (gd := gd) ht hx hi hn h0 (by omega : j.toNat < b.size)
  rw [bAt_eq] at h
  exact h
theorem r_storeN {t : TypeId} {x y : Operand} {m off k b : Nat} {g : Bool} {z : Option Value} {cs ys cs' : List C} {u : A} (ht : tinf G.P t = some (k, b, g, z)) (hx : ev sl x = some (.c (.ref m off))) (hm : lk mem m = some (.box cs)) (hy : ev sl y = some u) (hu : u.cells = some ys)
    (hk : ys.length = k) (hfit : off + ys.length ≤ cs.length) (hp : putAt cs off ys = cs') (hone : ∀ v, y = .const v → v.oneCell' = true) :
    OpR G ⟨none, .store t x y, ty, pos, af, gd⟩ sl mem ⟨rd sl [x, y], [(m, .box cs)], [], [(m, .box cs')]⟩ := by
  subst hp; exact r_store ht hx hm hy hu hk hfit hone
theorem spec_ofN {P : Program} {f : FuncId} {fn : Func} {c : Code} {args : List A} {mem mem' : List (Nat × Ob)} {res : A} {n : Nat} (hf : P.funcs[f]? = some fn) (hb : fn.body = some c) (hnn : fn.ntmps = n) (hn : args.length ≤ n)
    (h : AW ⟨P, n, mem.map (·.1)⟩ c ⟨argSlots 0 args, mem, []⟩ (Fin ⟨P, n, mem.map (·.1)⟩ fn res mem')) : Spec P f args mem res mem' := by
  subst hnn; exact spec_of hf hb hn h


/-- An operation whose guard was passed over itself. -/
theorem yielded_none {K : Ctx} {s : St} {a : Act} {w : World} {j d : Nat} (hs : Sim K s a w) (hd : ((ops[j]?).bind (·.dst)) = some d) (hn : d < K.n) (hl : s.sl.lookup d = some (.tup [])) : yielded ops a.tmps j = none := by
  obtain ⟨ρ, hr⟩ := hs
  have hv := hr.slots d _ hl
  have hlt : d < a.tmps.size := by rw [hr.n]; exact hn
  rw [Array.getD_eq_getD_getElem?, Array.getElem?_eq_getElem hlt] at hv
  simp only [Option.getD_some] at hv
  generalize hx : a.tmps[d] = x at hv
  cases hv with
  | tup h1 h2 =>
    rename_i vs
    have : a.tmps[d]? = some (.tuple vs) := by rw [Array.getElem?_eq_getElem hlt, hx]
    simp [yielded, hd, this]
theorem StepR.offU {j d x : Nat} {b : Bool} (hg : o.guard = some (j, b)) (hd : ((ops[j]?).bind (·.dst)) = some d) (hn : d < G.n) (hl : lk sl d = some (.tup [])) (hx : o.dst = some x) (hxn : x < G.n) :
    StepR G ops o sl mem ⟨[(d, .tup [])], [], [(x, .tup [])], []⟩ where
  ok := fun K hK s a w hs ht next Q hnx => by
    have hy := yielded_none hs hd (by rw [hK.1]; exact hn) (ht.rs (d, .tup []) (by simp))
    rw [if_neg (by simp [Region.wanted, hg, hy])]
    obtain ⟨ρ, hr⟩ := hs
    rw [hx]
    exact hnx _ _ ⟨ρ, hr.put (by rw [hK.1]; exact hxn) (.tup (by simp) (by simp))⟩
  rs := fun p hp => by simp at hp; subst hp; rw [← lk_eq]; exact hl
  rm := by simp
  wm := by simp


theorem Ob.le_of_eq {x y : Ob} (h : x = y) : Ob.le x y := h ▸ Ob.le_refl x


theorem C.le_nil : C.le (.d (.v (.slice none 0 0))) (.d (.sl false [])) := fun F ρ w v h => by
  cases h with | d h => cases h with | v h => exact .d (.sl0 none 0 (by simp))
theorem C.le_nn {nn : Bool} {rows : List (List D)} : C.le (.d (.sl nn rows)) (.d (.sl false rows)) := fun F ρ w v h => by
  cases h with | d h => exact .d h.weakNn
theorem C.le_own {m : Nat} {rows : List (List D)} : C.le (.own m rows) (.d (.sl false rows)) := fun F ρ w v h => .d h.ownD
theorem C.le_of_eq {x y : C} (h : x = y) : C.le x y := h ▸ C.le_refl x
inductive CsLe : List C → List C → Prop where
  | nil : CsLe [] []
  | cons {x y : C} {xs ys : List C} (h : C.le x y) (t : CsLe xs ys) : CsLe (x :: xs) (y :: ys)
theorem CsLe.spec {xs ys : List C} (h : CsLe xs ys) : xs.length = ys.length ∧ ∀ (i : Nat) (x y : C), xs[i]? = some x → ys[i]? = some y → C.le x y := by
  induction h with
  | nil => exact ⟨rfl, by simp⟩
  | cons h t ih =>
    refine ⟨by simp [ih.1], fun i x y hx hy => ?_⟩
    cases i with
    | zero => simp at hx hy; subst hx; subst hy; exact h
    | succ i => exact ih.2 i x y (by simpa using hx) (by simpa using hy)
theorem A.le_agg {xs ys : List C} (h : CsLe xs ys) : A.le (.agg xs) (.agg ys) := fun F ρ w v hr => by
  cases hr with
  | agg h1 hv =>
    obtain ⟨e1, e2⟩ := h.spec
    refine .agg (by omega) (fun i y hy => ?_)
    have hi : i < xs.length := by rw [e1]; exact (List.getElem?_eq_some_iff.1 hy).1
    exact e2 i _ y (List.getElem?_eq_getElem hi) hy _ _ _ _ (hv i _ (List.getElem?_eq_getElem hi))
theorem Ob.le_box {xs ys : List C} (h : CsLe xs ys) : Ob.le (.box xs) (.box ys) := h.spec


theorem C.le_trans {x y z : C} (h : C.le x y) (k : C.le y z) : C.le x z := fun F ρ w v r => k F ρ w v (h F ρ w v r)
theorem A.le_trans {x y z : A} (h : A.le x y) (k : A.le y z) : A.le x z := fun F ρ w v r => k F ρ w v (h F ρ w v r)

end Go.Am
