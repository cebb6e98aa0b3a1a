/- Names changed at a loop's head; nil that one may append to; small numbers; strings out of bytes; iterators over strings; deferred calls. -/
import Derived.Test.YtihcfphmikebgaaDoorAm15
import Derived.Defers
import Derived.Laws.RangeAny
import Derived.Laws.BytesString
namespace Go.Am
open Go.RowKit
set_option linter.unusedVariables false
set_option linter.unusedSimpArgs false

variable {G : Gm} {Q : Exit → St → Prop} {ops : Array Oper} {o : Oper} {l : List Oper} {sl : List (Nat × A)} {mem : List (Nat × Ob)} {defs : List (Nat × List C)}
variable {d : Nat} {ty : TypeId} {pos : String} {af : Array Edge} {gd : Option (Nat × Bool)} {K : Ctx} {ρ ρ' : Ren} {w w' : World} {F : Loc} {s s' : St} {a : Act}

/-! Names changed -/
def renOf (l : List (Nat × Nat)) (m : Nat) : Nat := match lk l m with | some m' => m' | none => m
inductive SlLeR (σ : Nat → Nat) (sl : List (Nat × A)) : List (Nat × A) → Prop where
  | nil : SlLeR σ sl []
  | cons {t : Nat} {x y : A} {r : List (Nat × A)} (h : lk sl t = some y) (hle : A.le y (x.ren σ)) (k : SlLeR σ sl r) : SlLeR σ sl ((t, x) :: r)
inductive MemLeR (σ : Nat → Nat) (mem : List (Nat × Ob)) : List (Nat × Ob) → Prop where
  | nil : MemLeR σ mem []
  | cons {m : Nat} {x y : Ob} {r : List (Nat × Ob)} (h : lk mem (σ m) = some y) (hle : Ob.le y (x.ren σ)) (k : MemLeR σ mem r) : MemLeR σ mem ((m, x) :: r)
theorem SlLeR.spec {σ : Nat → Nat} {sl sl' : List (Nat × A)} (h : SlLeR σ sl sl') : ∀ p ∈ sl', ∃ y, sl.lookup p.1 = some y ∧ A.le y (p.2.ren σ) := by
  induction h with
  | nil => simp
  | cons h hle k ih =>
    intro p hp
    rcases List.mem_cons.1 hp with rfl | hp
    · exact ⟨_, by rw [← lk_eq]; exact h, hle⟩
    · exact ih p hp
theorem MemLeR.spec {σ : Nat → Nat} {mem mem' : List (Nat × Ob)} (h : MemLeR σ mem mem') : ∀ p ∈ mem', ∃ y, mem.lookup (σ p.1) = some y ∧ Ob.le y (p.2.ren σ) := by
  induction h with
  | nil => simp
  | cons h hle k ih =>
    intro p hp
    rcases List.mem_cons.1 hp with rfl | hp
    · exact ⟨_, by rw [← lk_eq]; exact h, hle⟩
    · exact ih p hp
def injOn (σ : Nat → Nat) (l : List Nat) : Bool := l.all fun a => l.all fun b => Nat.beq a b || !Nat.beq (σ a) (σ b)
theorem injOn_spec {σ : Nat → Nat} {l : List Nat} (h : injOn σ l = true) : ∀ a ∈ l, ∀ b ∈ l, σ a = σ b → a = b := fun a ha b hb e => by
  have := List.all_eq_true.1 (List.all_eq_true.1 h a ha) b hb
  rw [e] at this
  simp only [Bool.or_eq_true, Bool.not_eq_true'] at this
  rcases this with h1 | h1
  · exact Nat.eq_of_beq_eq_true h1
  · simp at h1
theorem weakens_ren (r : List (Nat × Nat)) (h1 : SlLeR (renOf r) s.sl s'.sl) (h2 : MemLeR (renOf r) s.mem s'.mem) (h3 : closedSt s' = true) (h4 : s.defs = []) (h5 : s'.defs = []) (h6 : G.ent.all (hasKey s'.mem) = true)
    (h7 : injOn (renOf r) (s'.mem.map (·.1)) = true) (h8 : (G.ent.all fun m => Nat.beq (renOf r m) m) = true) : Weakens G s s' :=
  ⟨renOf r, ⟨h1.spec, h2.spec, fun p hp q hq e => injOn_spec h7 _ (List.mem_map.2 ⟨p, hp, rfl⟩) _ (List.mem_map.2 ⟨q, hq, rfl⟩) e, closedSt_spec h3, h4, h5⟩,
    fun m hm => ⟨Nat.eq_of_beq_eq_true (List.all_eq_true.1 h8 m hm), (hasKey_iff _ _).1 (List.all_eq_true.1 h6 m hm)⟩⟩

/-! Nil that one may append to -/
theorem SimR.retell (h : SimR K ρ s a w) {t : Nat} {x : A} (hx : RepA (Fs K ρ s.mem) ρ w x (a.tmps.getD t undef)) : SimR K ρ { s with sl := (t, x) :: s.sl } a w where
  n := h.n
  slots := fun i y hy => by
    rw [lookup_cons] at hy
    by_cases e : i = t
    · rw [if_pos e] at hy; cases hy; rw [e]; exact hx
    · rw [if_neg e] at hy; exact h.slots i y hy
  mem := h.mem
  dom := h.dom
  dist := h.dist
  wr := h.wr
  fr := h.fr
  fF := h.fF
  ent := h.ent
  defs := h.defs
theorem AW.nilOwn {c : Code} (t m k : Nat) (e : TypeId) (h : lk s.sl t = some (A.val (.slice none 0 0))) (hm : lk s.mem m = none)
    (hk : AW G c ⟨(t, .c (.own m [])) :: s.sl, (m, .perm k e) :: s.mem, s.defs⟩ Q) : AW G c s Q := fun K hK a w hs => by
  obtain ⟨ρ, hr⟩ := hs
  have hm' : s.mem.lookup m = none := by rw [← lk_eq]; exact hm
  have h1 := hr.nilPerm (k := k) (e := e) hm'
  have hv := (hr.slots t _ (by rw [← lk_eq]; exact h)).val
  refine hk K hK a w ⟨_, h1.retell (t := t) (x := .c (.own m [])) ?_⟩
  rw [hv]
  exact .c (.ownNil (Ren.set_same _ _ _) rfl)

/-! Numbers -/
theorem r_subU8 {t yt : TypeId} {x y : Operand} {m n : Int} (hx : ev sl x = some (A.val (.int .u8 m))) (hy : ev sl y = some (A.val (.int .u8 n))) (hn : d < G.n) (h0 : 0 ≤ m - n) (h1 : m - n ≤ 255) :
    OpR G ⟨some d, .binOp .sub t x y yt, ty, pos, af, gd⟩ sl mem ⟨rd sl [x, y], [], [(d, A.val (.int .u8 (m - n)))], []⟩ :=
  r_bin hx hy hn rfl (by
    have := run_int_sub (P := G.P) (t := t) (x := x) (y := y) .u8 m n
    have e : IntKind.u8.wrap (m - n) = m - n := by
      simp only [IntKind.wrap, IntKind.signed, IntKind.bits]; simp; omega
    rw [e] at this; exact this)
theorem r_convI {t u : TypeId} {x : Operand} {k : IntKind} {m : Int} (ht : G.P.underlying t = some (.int k)) (hu : G.P.underlying u = some (.int .i64)) (hx : ev sl x = some (A.val (.int k m))) (hn : d < G.n) (h0 : -9223372036854775808 ≤ m) (h1 : m ≤ 9223372036854775807) :
    OpR G ⟨some d, .convert t u x, ty, pos, af, gd⟩ sl mem ⟨rd sl [x], [], [(d, A.i64 m)], []⟩ := by
  have := r_conv (G := G) (sl := sl) (mem := mem) (d := d) (ty := ty) (pos := pos) (af := af) (gd := gd) ht hu hx hn
  rw [wrap_i64 h0 h1] at this; exact this
theorem r_convB {t u : TypeId} {x : Operand} {k : IntKind} {m : Int} (ht : G.P.underlying t = some (.int k)) (hu : G.P.underlying u = some (.int .u8)) (hx : ev sl x = some (A.val (.int k m))) (hn : d < G.n) (h0 : 0 ≤ m) (h1 : m ≤ 255) :
    OpR G ⟨some d, .convert t u x, ty, pos, af, gd⟩ sl mem ⟨rd sl [x], [], [(d, A.val (.int .u8 m))], []⟩ := by
  have := r_conv (G := G) (sl := sl) (mem := mem) (d := d) (ty := ty) (pos := pos) (af := af) (gd := gd) ht hu hx hn
  have e : IntKind.u8.wrap m = m := by
    simp only [IntKind.wrap, IntKind.signed, IntKind.bits]; simp; omega
  rw [e] at this; exact this

theorem r_quoP {t yt : TypeId} {x y : Operand} {m n : Int} (hx : ev sl x = some (A.i64 m)) (hy : ev sl y = some (A.i64 n)) (hn : d < G.n) (h0 : 0 ≤ m) (h1 : m ≤ 9223372036854775807) (h2 : 0 < n) :
    OpR G ⟨some d, .binOp .quo t x y yt, ty, pos, af, gd⟩ sl mem ⟨rd sl [x, y], [], [(d, A.i64 (m / n))], []⟩ :=
  r_bin hx hy hn rfl (by
    have := run_int_quo (P := G.P) (t := t) (x := x) (y := y) .i64 m n (by omega)
    have e1 : m.tdiv n = m / n := Int.tdiv_eq_ediv_of_nonneg h0
    have e2 : 0 ≤ m / n := Int.ediv_nonneg h0 (by omega)
    have e3 : m / n ≤ m := Int.ediv_le_self n h0
    rw [e1, wrap_i64 (by omega) (by omega)] at this
    exact this)

/-! A string out of bytes -/
abbrev byteRows (b : ByteArray) : List (List D) := b.data.toList.map fun c => [.v (.int .u8 c.toNat)]
theorem foldl_bytes (l : List UInt8) : ∀ r : ByteArray, (l.map fun c => ((c.toNat : Nat) : Int)).foldl (fun r n => r.push (UInt8.ofNat n.toNat)) r = ⟨r.data ++ l.toArray⟩ := by
  induction l with
  | nil => intro r; simp
  | cons c l ih =>
    intro r
    simp only [List.map_cons, List.foldl_cons]
    rw [ih]
    simp [ByteArray.push]
theorem run_bts {P : Program} {b : ByteArray} {v : Value} (h : RepD F w (.sl false (byteRows b)) v) : (Conv.bytesToString v).run P w = .ok (.string b) w := by
  have hk : ∀ r ∈ byteRows b, r.length = 1 := by
    intro r hr
    simp only [byteRows, List.mem_map] at hr
    obtain ⟨c, _, rfl⟩ := hr
    rfl
  have hlen : (byteRows b).length = b.size := by
    simp only [byteRows, List.length_map, Array.length_toList]
    rfl
  obtain ⟨A, c, rfl, _, e | ⟨g, off, f, rfl, _, hc, hr⟩⟩ := h.opened hk
  · have hb : b = ByteArray.empty := by
      have := congrArg List.length e
      rw [hlen] at this
      apply ByteArray.ext
      exact Array.eq_empty_of_size_eq_zero (by simpa using this)
    subst hb
    cases A with
    | none => simp [Conv.bytesToString]
    | some p =>
      have hload : (loadCells p 0).run P w = .ok ((([] : List Int).map (Value.int .u8)).toArray) w := by
        have := run_loadCells (P := P) w p 0 (fun _ => undef) (by omega)
        simpa using this
      rw [e]
      exact run_bytesToString w p 0 c [] hload
  · have hload : (loadCells ⟨g, off, none⟩ (byteRows b).length).run P w = .ok ((b.data.toList.map fun c => ((c.toNat : Nat) : Int)).map (Value.int .u8)).toArray w := by
      have h1 := run_loadCells (P := P) w ⟨g, off, none⟩ (byteRows b).length (fun j => f j 0) (fun j hj => by
        rw [add_none]
        have := (hc j 0 hj (by omega)).2
        simpa using this)
      rw [h1]
      congr 2
      apply List.ext_getElem?
      intro i
      simp only [List.getElem?_map]
      rcases Nat.lt_or_ge i (byteRows b).length with hi | hi
      · have hi' : i < b.data.toList.length := by simpa [byteRows] using hi
        rw [List.getElem?_range hi, List.getElem?_eq_getElem hi']
        simp only [Option.map_some, Option.some.injEq]
        have := hr i 0 [.v (.int .u8 (b.data.toList[i]).toNat)] _ (by simp only [byteRows, List.getElem?_map, List.getElem?_eq_getElem hi', Option.map_some]) rfl
        generalize f i 0 = u at this ⊢
        cases this; rfl
      · have hi' : b.data.toList.length ≤ i := by simpa [byteRows] using hi
        rw [List.getElem?_eq_none (by simpa using hi), List.getElem?_eq_none hi']
        rfl
    have := run_bytesToString (P := P) w ⟨g, off, none⟩ (byteRows b).length c _ hload
    rw [this, foldl_bytes]
    congr 2
    apply ByteArray.ext
    simp
theorem r_bts {t u e : TypeId} {x : Operand} {y : A} {b : ByteArray} (ht : G.P.underlying t = some (.slice e)) (he : G.P.underlying e = some (.int .u8)) (hu : G.P.underlying u = some .string) (hx : ev sl x = some y) (hy : SrcOf y (byteRows b)) (hone : oneAll [x] = true) (hn : d < G.n) :
    OpR G ⟨some d, .convert t u x, ty, pos, af, gd⟩ sl mem ⟨rd sl [x], [], [(d, A.val (.string b))], []⟩ :=
  .pure [x] rfl hn (by simp) fun K ρ s a w hK hs hrs _ => by
    have hr := hy.rep (rep_of hs hrs (by simp) (oneAll_spec hone (by simp)) hx)
    refine ⟨.string b, ?_, .c (.d (.v rfl))⟩
    have hb := run_bts (P := G.P) hr
    generalize hv : a.eval x = v at hr hb
    have hsl : ∃ p n c, v = .slice p n c := by
      generalize hz : D.sl false (byteRows b) = z at hr
      cases hr with
      | v => cases hz
      | sl0 => exact ⟨_, _, _, rfl⟩
      | sl => exact ⟨_, _, _, rfl⟩
    obtain ⟨p, n, c, rfl⟩ := hsl
    have : (convert t u (.slice p n c)).run G.P w = .ok (.string b) w := by
      unfold convert
      simp only [Sem.run_bind, run_underlying ht, run_underlying hu, Result.andThen_ok]
      simp only [Sem.run_bind, run_underlying he, Result.andThen_ok]
      exact hb
    simp only [execOp, hv, Sem.run_bind, this, Result.andThen_ok, Sem.run_pure]

end Go.Am
