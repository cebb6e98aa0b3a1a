/- The abstract state: what slots and private memory hold, as data; its likeness to the machine's world. -/
import Derived.WalkKit
import Derived.Below
import Derived.Orders
import Derived.Maps.AppendAt
namespace Go.Am
theorem nb {n m : Nat} (h : Nat.ble n m = true) : n ≤ m := Nat.le_of_ble_eq_true h
theorem tks {α : Type _} {a : α} {as : List α} {i : Nat} : List.take (i + 1) (a :: as) = a :: List.take i as := rfl
theorem tkz {α : Type _} {l : List α} : List.take 0 l = [] := List.take_zero
theorem tkn {α : Type _} {i : Nat} : List.take i ([] : List α) = [] := List.take_nil
theorem dps {α : Type _} {a : α} {l : List α} {i : Nat} : List.drop (i + 1) (a :: l) = List.drop i l := rfl
theorem dpz {α : Type _} {l : List α} : List.drop 0 l = l := rfl
theorem cap {α : Type _} {a : α} {as bs : List α} : a :: as ++ bs = a :: (as ++ bs) := rfl
theorem nap {α : Type _} (as : List α) : [] ++ as = as := rfl
theorem apn {α : Type _} (as : List α) : as ++ [] = as := List.append_nil as
theorem lnc {α : Type _} {a : α} {as : List α} : (a :: as).length = as.length + 1 := rfl
theorem lnn {α : Type _} : ([] : List α).length = 0 := rfl
theorem zad (n : Nat) : 0 + n = n := Nat.zero_add n
theorem adz (n : Nat) : n + 0 = n := rfl
theorem dtt {p : Prop} [Decidable p] : (decide p = true) = p := decide_eq_true_eq
theorem dff {p : Prop} {_ : Decidable p} : decide p = false ↔ ¬p := decide_eq_false_iff_not
theorem bqi {α : Type _} [BEq α] [LawfulBEq α] {a b : α} : (a == b) = true ↔ a = b := beq_iff_eq
theorem bqf {α : Type _} [BEq α] [LawfulBEq α] {a b : α} : (a == b) = false ↔ a ≠ b := beq_eq_false_iff_ne
theorem bni {α : Type _} [BEq α] [LawfulBEq α] {a b : α} : (a != b) = true ↔ a ≠ b := bne_iff_ne
theorem bnf {α : Type _} [BEq α] [LawfulBEq α] {a b : α} : (a != b) = false ↔ a = b := bne_eq_false_iff_eq
theorem nt1 (b : Bool) : ((!b) = true) = (b = false) := Bool.not_eq_true' b
theorem nf1 (b : Bool) : ((!b) = false) = (b = true) := Bool.not_eq_false' b
theorem nt0 (b : Bool) : (¬b = true) = (b = false) := Bool.not_eq_true b
theorem nf0 (b : Bool) : (¬b = false) = (b = true) := Bool.not_eq_false b
theorem ilt {a b : Int} : ¬a < b ↔ b ≤ a := Int.not_lt
theorem ile {a b : Int} : ¬a ≤ b ↔ b < a := Int.not_le
theorem gez {α : Type _} {a : α} {l : List α} : (a :: l)[0]? = some a := rfl
theorem ges {α : Type _} {a : α} {i : Nat} {l : List α} : (a :: l)[i + 1]? = l[i]? := rfl
theorem mpc {α : Type _} {β : Type _} {f : α → β} {a : α} {l : List α} : List.map f (a :: l) = f a :: List.map f l := rfl
theorem mpn {α : Type _} {β : Type _} {f : α → β} : List.map f [] = [] := rfl
theorem ler (n : Nat) : n ≤ n := Nat.le_refl n

open Go.RowKit

abbrev Loc := Nat → Nat → Prop

/-- Data in memory that nobody writes. -/
inductive D where
  | v (x : Value)
  | sl (nn : Bool) (rows : List (List D))
  deriving Inhabited

/-- What a cell may hold. -/
inductive C where
  | d (x : D)
  | ref (m off : Nat)
  | own (m : Nat) (rows : List (List D))
  | row (m : Nat) (n : Nat)
  | pel (cs : List D)
  | clo (fn : Fn) (first caps : List C)
  deriving Inhabited

/-- What a slot may hold. -/
inductive A where
  | c (x : C)
  | agg (cs : List C)
  | tup (l : List A)
  deriving Inhabited

structure Desc where
  blk : Nat
  len : Nat
  cap : Nat

/-- Private memory: a block that is written; the room behind a slice of one's own; nothing any more. -/
inductive Ob where
  | box (cs : List C)
  | perm (k : Nat) (e : TypeId)
  | iter (s : ByteArray) (pos : Nat)
  | tab (g : Nat) (vs : List Value)
  | gone
  deriving Inhabited

abbrev Ren := Nat → Option Desc

inductive RepD (F : Loc) (w : World) : D → Value → Prop where
  | v {x : Value} (h : x.oneCell' = true) : RepD F w (.v x) x
  | sl0 {nn : Bool} (a : Option Addr) (c : Nat) (hn : nn = true → a.isSome = true) : RepD F w (.sl nn []) (.slice a 0 c)
  | sl {nn : Bool} {rows : List (List D)} (g off k c : Nat) (f : Nat → Nat → Value) (hc : rows.length ≤ c) (hk : ∀ r ∈ rows, r.length = k)
      (hcell : ∀ i j, i < rows.length → j < k → ¬ F g (off + i * k + j) ∧ w.cell? ⟨g, off + i * k + j, none⟩ = some (f i j))
      (hr : ∀ (i j : Nat) (r : List D) (x : D), rows[i]? = some r → r[j]? = some x → RepD F w x (f i j)) :
      RepD F w (.sl nn rows) (.slice (some ⟨g, off, none⟩) rows.length c)

inductive RepC (F : Loc) (ρ : Ren) (w : World) : C → Value → Prop where
  | d {x : D} {v : Value} (h : RepD F w x v) : RepC F ρ w (.d x) v
  | ref {m off : Nat} {δ : Desc} (h : ρ m = some δ) : RepC F ρ w (.ref m off) (.pointer (some ⟨δ.blk, off, none⟩))
  | own {m : Nat} {rows : List (List D)} {δ : Desc} (h : ρ m = some δ) (hl : δ.len = rows.length)
      (hr : RepD F w (.sl true rows) (.slice (some ⟨δ.blk, 0, none⟩) δ.len δ.cap)) : RepC F ρ w (.own m rows) (.slice (some ⟨δ.blk, 0, none⟩) δ.len δ.cap)
  | ownNil {m : Nat} {δ : Desc} (h : ρ m = some δ) (hc : δ.cap = 0) : RepC F ρ w (.own m []) (.slice none 0 0)
  | row {m n : Nat} {δ : Desc} (h : ρ m = some δ) : RepC F ρ w (.row m n) (.slice (some ⟨δ.blk, 0, none⟩) n n)
  | pel {cs : List D} (g off : Nat) (f : Nat → Value) (hcell : ∀ j, j < cs.length → ¬ F g (off + j) ∧ w.cell? ⟨g, off + j, none⟩ = some (f j))
      (hr : ∀ (j : Nat) (x : D), cs[j]? = some x → RepD F w x (f j)) : RepC F ρ w (.pel cs) (.pointer (some ⟨g, off, none⟩))
  | clo {fn : Fn} {first caps : List C} {vs us : Array Value} (h1 : first.length = vs.size) (h2 : caps.length = us.size)
      (hv : ∀ (i : Nat) (x : C), first[i]? = some x → RepC F ρ w x (vs.getD i undef)) (hu : ∀ (i : Nat) (x : C), caps[i]? = some x → RepC F ρ w x (us.getD i undef)) :
      RepC F ρ w (.clo fn first caps) (.func fn vs us)

inductive RepA (F : Loc) (ρ : Ren) (w : World) : A → Value → Prop where
  | c {x : C} {v : Value} (h : RepC F ρ w x v) : RepA F ρ w (.c x) v
  | agg {cs : List C} {vs : Array Value} (h1 : cs.length = vs.size) (hv : ∀ (i : Nat) (x : C), cs[i]? = some x → RepC F ρ w x (vs.getD i undef)) : RepA F ρ w (.agg cs) (.agg vs)
  | tup {l : List A} {vs : Array Value} (h1 : l.length = vs.size) (hv : ∀ (i : Nat) (x : A), l[i]? = some x → RepA F ρ w x (vs.getD i undef)) : RepA F ρ w (.tup l) (.tuple vs)

/-- What is read in w at places that nobody writes is read in w', too. -/
def Stays (F : Loc) (w : World) (F' : Loc) (w' : World) : Prop :=
  ∀ g o u, ¬ F g o → w.cell? ⟨g, o, none⟩ = some u → ¬ F' g o ∧ w'.cell? ⟨g, o, none⟩ = some u

theorem Stays.refl (F : Loc) (w : World) : Stays F w F w := fun _ _ _ h h' => ⟨h, h'⟩
theorem Stays.trans {F F' F'' : Loc} {w w' w'' : World} (h : Stays F w F' w') (k : Stays F' w' F'' w'') : Stays F w F'' w'' := fun g o u a b => k g o u (h g o u a b).1 (h g o u a b).2

theorem RepD.stays {F F' : Loc} {w w' : World} (hs : Stays F w F' w') {x : D} {v : Value} (h : RepD F w x v) : RepD F' w' x v := by
  induction h with
  | v h => exact .v h
  | sl0 a c hn => exact .sl0 a c hn
  | sl g off k c f hc hk hcell hr ih => exact .sl g off k c f hc hk (fun i j hi hj => hs _ _ _ (hcell i j hi hj).1 (hcell i j hi hj).2) (fun i j r x h1 h2 => ih i j r x h1 h2)

def Ren.le (ρ ρ' : Ren) : Prop := ∀ m δ, ρ m = some δ → ρ' m = some δ
theorem Ren.le_refl (ρ : Ren) : ρ.le ρ := fun _ _ h => h
theorem Ren.le_trans {a b c : Ren} (h : a.le b) (k : b.le c) : a.le c := fun m δ e => k m δ (h m δ e)

theorem RepC.stays {F F' : Loc} {ρ ρ' : Ren} {w w' : World} (hs : Stays F w F' w') (hρ : ρ.le ρ') {x : C} {v : Value} (h : RepC F ρ w x v) : RepC F' ρ' w' x v := by
  induction h with
  | d h => exact .d (h.stays hs)
  | ref h => exact .ref (hρ _ _ h)
  | own h hl hr => exact .own (hρ _ _ h) hl (hr.stays hs)
  | ownNil h hc => exact .ownNil (hρ _ _ h) hc
  | row h => exact .row (hρ _ _ h)
  | pel g off f hcell hr => exact .pel g off f (fun j hj => hs _ _ _ (hcell j hj).1 (hcell j hj).2) (fun j x hx => (hr j x hx).stays hs)
  | clo h1 h2 _ _ ih1 ih2 => exact .clo h1 h2 (fun i x hx => ih1 i x hx) (fun i x hx => ih2 i x hx)

theorem RepA.stays {F F' : Loc} {ρ ρ' : Ren} {w w' : World} (hs : Stays F w F' w') (hρ : ρ.le ρ') {x : A} {v : Value} (h : RepA F ρ w x v) : RepA F' ρ' w' x v := by
  induction h with
  | c h => exact .c (h.stays hs hρ)
  | agg h1 hv => exact .agg h1 (fun i x hx => (hv i x hx).stays hs hρ)
  | tup h1 _ ih => exact .tup h1 (fun i x hx => ih i x hx)

theorem RepD.one {F : Loc} {w : World} {x : D} {v : Value} (h : RepD F w x v) : v.oneCell' = true := by
  cases h with
  | v h => exact h
  | sl0 => rfl
  | sl => rfl
theorem RepC.one {F : Loc} {ρ : Ren} {w : World} {x : C} {v : Value} (h : RepC F ρ w x v) : v.oneCell' = true := by
  cases h with
  | d h => exact h.one
  | _ => rfl

/-- Memory object m, as it lies in the world. -/
inductive SatOb (F : Loc) (ρ : Ren) (w : World) (m : Nat) : Ob → Prop where
  | box {cs : List C} {δ : Desc} {arr : Array Value} {t : TypeId} (h : ρ m = some δ) (hb : w.heap[δ.blk]? = some (.cells arr t (0, 0))) (hl : arr.size = cs.length)
      (hc : ∀ (i : Nat) (x : C), cs[i]? = some x → RepC F ρ w x (arr.getD i undef)) : SatOb F ρ w m (.box cs)
  | perm {k : Nat} {e : TypeId} {δ : Desc} {arr : Array Value} (h : ρ m = some δ) (hb : w.heap[δ.blk]? = some (.cells arr e (0, 0))) (h1 : δ.len ≤ δ.cap) (h2 : δ.cap ≤ maxLen)
      (h3 : arr.size = δ.cap * k) : SatOb F ρ w m (.perm k e)
  | permNil {k : Nat} {e : TypeId} {δ : Desc} (h : ρ m = some δ) (hc : δ.cap = 0) : SatOb F ρ w m (.perm k e)
  | iter {s : ByteArray} {pos : Nat} {δ : Desc} (h : ρ m = some δ) (hb : w.heap[δ.blk]? = some (.stringIter s pos)) : SatOb F ρ w m (.iter s pos)
  | tab {g : Nat} {vs : List Value} {δ : Desc} {arr : Array Value} {t : TypeId} {fr : Nat × Nat} (h : ρ m = some δ) (hb : w.heap[g]? = some (.cells arr t fr)) (hl : arr.size = vs.length)
      (hv : ∀ i v, vs[i]? = some v → ¬ F g i ∧ w.cell? ⟨g, i, none⟩ = some v) : SatOb F ρ w m (.tab g vs)
  | gone : SatOb F ρ w m .gone

/-- The places that object m may write. -/
def Ob.wr (δ : Desc) : Ob → Loc
  | .box _ => fun g _ => g = δ.blk
  | .perm k _ => fun g o => g = δ.blk ∧ δ.len * k ≤ o ∧ o < δ.cap * k
  | .iter _ _ => fun g _ => g = δ.blk
  | .tab _ _ => fun _ _ => False
  | .gone => fun _ _ => False

structure St where
  sl : List (Nat × A)
  mem : List (Nat × Ob)
  defs : List (Nat × List C)

def Wr (ρ : Ren) (mem : List (Nat × Ob)) : Loc := fun g o => ∃ m ob δ, mem.lookup m = some ob ∧ ρ m = some δ ∧ ob.wr δ g o

/-- What stands of w0 when only places of L were written, and new blocks made. -/
structure Frm (w0 : World) (L : Loc) (w : World) : Prop where
  os : w.os = w0.os
  tape : w.tape = w0.tape
  output : w.output = w0.output
  size : w0.heap.size ≤ w.heap.size
  blk : ∀ g, g < w0.heap.size → w.heap[g]? = w0.heap[g]? ∨
    (∃ c c' t fr, w0.heap[g]? = some (.cells c t fr) ∧ w.heap[g]? = some (.cells c' t fr) ∧ c'.size = c.size ∧ ∀ j, ¬ L g j → c'[j]? = c[j]?) ∨
    (L g 0 ∧ ∃ s p p', w0.heap[g]? = some (.stringIter s p) ∧ w.heap[g]? = some (.stringIter s p'))

theorem Frm.refl (w : World) (L : Loc) : Frm w L w := ⟨rfl, rfl, rfl, Nat.le_refl _, fun _ _ => .inl rfl⟩
theorem Frm.trans {a b c : World} {L L' : Loc} (h : Frm a L b) (k : Frm b L' c) (hL : ∀ g j, g < a.heap.size → L' g j → L g j) : Frm a L c := by
  refine ⟨k.os.trans h.os, k.tape.trans h.tape, k.output.trans h.output, Nat.le_trans h.size k.size, fun g hg => ?_⟩
  rcases h.blk g hg with e | ⟨c1, c2, t, fr, e1, e2, e3, e4⟩ | ⟨e0, s1, p1, p2, e1, e2⟩
  · rcases k.blk g (Nat.lt_of_lt_of_le hg h.size) with f | ⟨d1, d2, t', fr', f1, f2, f3, f4⟩ | ⟨f0, s2, q1, q2, f1, f2⟩
    · exact .inl (f.trans e)
    · exact .inr (.inl ⟨d1, d2, t', fr', e ▸ f1, f2, f3, fun j hj => f4 j (fun x => hj (hL g j hg x))⟩)
    · exact .inr (.inr ⟨hL g 0 hg f0, s2, q1, q2, e ▸ f1, f2⟩)
  · rcases k.blk g (Nat.lt_of_lt_of_le hg h.size) with f | ⟨d1, d2, t', fr', f1, f2, f3, f4⟩ | ⟨f0, s2, q1, q2, f1, f2⟩
    · exact .inr (.inl ⟨c1, c2, t, fr, e1, f.trans e2, e3, e4⟩)
    · rw [e2] at f1
      cases f1
      exact .inr (.inl ⟨c1, d2, t, fr, e1, f2, f3.trans e3, fun j hj => (f4 j (fun x => hj (hL g j hg x))).trans (e4 j hj)⟩)
    · rw [e2] at f1; cases f1
  · rcases k.blk g (Nat.lt_of_lt_of_le hg h.size) with f | ⟨d1, d2, t', fr', f1, f2, f3, f4⟩ | ⟨f0, s2, q1, q2, f1, f2⟩
    · exact .inr (.inr ⟨e0, s1, p1, p2, e1, f.trans e2⟩)
    · rw [e2] at f1; cases f1
    · rw [e2] at f1; cases f1
      exact .inr (.inr ⟨e0, s1, p1, q2, e1, f2⟩)

theorem Frm.weaken {a b : World} {L L' : Loc} (h : Frm a L b) (hL : ∀ g j, L g j → L' g j) : Frm a L' b :=
  ⟨h.os, h.tape, h.output, h.size, fun g hg => (h.blk g hg).imp id (Or.imp (fun ⟨c, c', t, fr, e1, e2, e3, e4⟩ => ⟨c, c', t, fr, e1, e2, e3, fun j hj => e4 j (fun x => hj (hL g j x))⟩) (fun ⟨e0, r⟩ => ⟨hL g 0 e0, r⟩))⟩

theorem Frm.cell {a b : World} {L : Loc} (h : Frm a L b) {g o : Nat} {u : Value} (hL : ¬ L g o) (hc : a.cell? ⟨g, o, none⟩ = some u) : b.cell? ⟨g, o, none⟩ = some u := by
  have hg : g < a.heap.size := World.block_lt_of_cell? a _ hc
  simp only [World.cell?, Option.isSome_none] at hc ⊢
  rcases h.blk g hg with e | ⟨c, c', t, fr, e1, e2, _, e4⟩ | ⟨_, s1, p1, p2, e1, e2⟩
  · rw [e]; exact hc
  · rw [e1] at hc; rw [e2]
    simp only at hc ⊢
    simpa [e4 o hL] using hc
  · rw [e1] at hc; simp at hc

theorem Frm.below {a b : World} (h : Frm a (fun _ _ => False) b) : Below a.heap.size a b := by
  refine ⟨h.os, h.tape, h.output, h.size, fun g hg => ?_⟩
  rcases h.blk g hg with e | ⟨c, c', t, fr, e1, e2, e3, e4⟩ | ⟨e0, _⟩
  rotate_left 2
  · exact e0.elim
  · exact e
  · rw [e1, e2]
    have : c' = c := by
      apply Array.ext_getElem?
      intro i
      exact e4 i (fun x => x)
    rw [this]

theorem Frm.of_below {a b : World} (h : Below a.heap.size a b) (L : Loc) : Frm a L b := ⟨h.os, h.tape, h.output, h.size, fun g hg => .inl (h.block g hg)⟩

/-- A run's surroundings: the world when it began, the places that it may write, those that it must not touch, and the number of slots. -/
structure Ctx where
  w0 : World
  L : Loc
  F : Loc
  n : Nat
  ρ0 : Ren

def Fs (K : Ctx) (ρ : Ren) (mem : List (Nat × Ob)) : Loc := fun g o => K.F g o ∨ Wr ρ mem g o

inductive RepDef (F : Loc) (ρ : Ren) (w : World) : Nat × List C → Deferred → Prop where
  | mk {f : Nat} {cs : List C} {vs : Array Value} (h1 : cs.length = vs.size) (hv : ∀ (i : Nat) (x : C), cs[i]? = some x → RepC F ρ w x (vs.getD i undef)) :
      RepDef F ρ w (f, cs) { target := .fn (.func f) #[], args := vs }

structure SimR (K : Ctx) (ρ : Ren) (s : St) (a : Act) (w : World) : Prop where
  n : a.tmps.size = K.n
  slots : ∀ t x, s.sl.lookup t = some x → RepA (Fs K ρ s.mem) ρ w x (a.tmps.getD t undef)
  mem : ∀ m ob, s.mem.lookup m = some ob → SatOb (Fs K ρ s.mem) ρ w m ob
  dom : ∀ m, s.mem.lookup m = none → ρ m = none
  dist : ∀ m m' ob ob' δ δ' g o, s.mem.lookup m = some ob → s.mem.lookup m' = some ob' → ρ m = some δ → ρ m' = some δ' → ob.wr δ g o → ob'.wr δ' g o → m = m'
  wr : ∀ g o, Wr ρ s.mem g o → ¬ K.F g o ∧ g < w.heap.size ∧ (K.L g o ∨ K.w0.heap.size ≤ g)
  fr : Frm K.w0 K.L w
  fF : ∀ g o, K.F g o → g < K.w0.heap.size
  ent : K.ρ0.le ρ
  defs : s.defs.length = a.defers.length ∧ ∀ (i : Nat) x d, s.defs[i]? = some x → a.defers[i]? = some d → RepDef (Fs K ρ s.mem) ρ w x d

def Sim (K : Ctx) (s : St) (a : Act) (w : World) : Prop := ∃ ρ, SimR K ρ s a w

end Go.Am
