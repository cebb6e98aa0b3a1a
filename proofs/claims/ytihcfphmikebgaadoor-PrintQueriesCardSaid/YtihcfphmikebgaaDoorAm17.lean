/- Iterators over strings. -/
import Derived.Test.YtihcfphmikebgaaDoorAm16
namespace Go.Am
open Go.RowKit
set_option linter.unusedVariables false
set_option linter.unusedSimpArgs false

variable {G : Gm} {Q : Exit → St → Prop} {ops : Array Oper} {o : Oper} {l : List Oper} {sl : List (Nat × A)} {mem : List (Nat × Ob)} {defs : List (Nat × List C)}
variable {d : Nat} {ty : TypeId} {pos : String} {af : Array Edge} {gd : Option (Nat × Bool)} {K : Ctx} {ρ ρ' : Ren} {w w' : World} {F : Loc} {s s' : St} {a : Act}

theorem SimR.newIter (h : SimR K ρ s a w) {m : Nat} {b : ByteArray} {p : Nat} (hm : s.mem.lookup m = none) :
    SimR K (ρ.set m ⟨w.heap.size, 0, 0⟩) { s with mem := (m, .iter b p) :: s.mem } a (w.alloc (.stringIter b p)) := by
  have hj := h.junk (.stringIter b p)
  have hle := Ren.le_set (h.dom m hm) ⟨w.heap.size, 0, 0⟩
  have hnew := alloc_heap_new w (.stringIter b p)
  have hst : Stays (Fs K ρ s.mem) (w.alloc (.stringIter b p)) (Fs K (ρ.set m ⟨w.heap.size, 0, 0⟩) ((m, .iter b p) :: s.mem)) (w.alloc (.stringIter b p)) := fun g o u x y => by
    refine ⟨?_, y⟩
    rintro (z | z)
    · exact x (.inl z)
    · rcases (Wr.cons_new hm).1 z with q | q
      · have e : g = w.heap.size := q
        subst e
        simp only [World.cell?] at y
        rw [hnew] at y
        cases y
      · exact x (.inr q)
  have key : ∀ {i : Nat} {ob : Ob}, List.lookup i ((m, Ob.iter b p) :: s.mem) = some ob → (i = m ∧ ob = .iter b p) ∨ (i ≠ m ∧ s.mem.lookup i = some ob) := fun {i ob} hi => by
    rw [lookup_cons] at hi
    by_cases e' : i = m
    · rw [if_pos e'] at hi; cases hi; exact .inl ⟨e', rfl⟩
    · rw [if_neg e'] at hi; exact .inr ⟨e', hi⟩
  have hlt : ∀ (i : Nat) (ob : Ob) (δ : Desc) (g o : Nat), s.mem.lookup i = some ob → ρ i = some δ → ob.wr δ g o → g < w.heap.size := fun i ob δ g o h1 h2 h3 => (h.wr g o ⟨i, ob, δ, h1, h2, h3⟩).2.1
  refine hj.move hle hst (fun i ob hi => ?_) (fun i hi => ?_) (fun i i' ob ob' δ δ' g o h1 h2 r1 r2 n1 n2 => ?_) (fun g o hw => ?_) hj.fr
  · rcases key hi with ⟨rfl, rfl⟩ | ⟨hne, hi⟩
    · exact .iter (Ren.set_same _ _ _) hnew
    · exact (hj.mem i ob hi).stays hst hle (.of_eq fun _ _ => rfl) (fun _ _ _ => rfl)
  · rw [lookup_cons] at hi
    by_cases e' : i = m
    · rw [if_pos e'] at hi; cases hi
    · rw [if_neg e'] at hi; rw [Ren.set_other ρ _ e']; exact h.dom i hi
  · rcases key h1 with ⟨c1, c2⟩ | ⟨c1, c2⟩ <;> rcases key h2 with ⟨d1, d2⟩ | ⟨d1, d2⟩
    · rw [c1, d1]
    · subst c1; subst c2
      rw [Ren.set_same] at r1; cases r1
      rw [Ren.set_other ρ _ d1] at r2
      have e : g = w.heap.size := n1
      have := hlt _ _ _ _ _ d2 r2 n2; omega
    · subst d1; subst d2
      rw [Ren.set_same] at r2; cases r2
      rw [Ren.set_other ρ _ c1] at r1
      have e : g = w.heap.size := n2
      have := hlt _ _ _ _ _ c2 r1 n1; omega
    · rw [Ren.set_other ρ _ c1] at r1; rw [Ren.set_other ρ _ d1] at r2
      exact h.dist i i' ob ob' δ δ' g o c2 d2 r1 r2 n1 n2
  · rcases (Wr.cons_new hm).1 hw with q | q
    · have e : g = w.heap.size := q
      subst e
      exact ⟨fun x => absurd (Nat.lt_of_lt_of_le (h.fF _ _ x) h.fr.size) (Nat.lt_irrefl _), by simp, .inr h.fr.size⟩
    · have := h.wr g o q
      exact ⟨this.1, by simp; omega, this.2.2⟩

theorem r_range {t : TypeId} {x : Operand} {b : ByteArray} (m : Nat) (ht : G.P.underlying t = some .string) (hx : ev sl x = some (A.val (.string b))) (hm : lk mem m = none) (hn : d < G.n) :
    OpR G ⟨some d, .range t x, ty, pos, af, gd⟩ sl mem ⟨rd sl [x], [], [(d, .c (.ref m 0))], [(m, .iter b 0)]⟩ where
  rs := rd_ok sl _
  rm := by simp
  wm := fun p hp => by simp at hp; subst hp; right; rw [← lk_eq]; exact hm
  ok := fun K hK s a w hs htr next Q hnx => by
    obtain ⟨ρ, hr⟩ := hs
    have hv := val_of hr htr.rs (by simp) hx
    have hsm : s.mem.lookup m = none := by
      rcases htr.wm (m, .iter b 0) (by simp) with hh | hh
      · simp at hh
      · exact hh
    have hrun : (execOp a.eval ⟨some d, .range t x, ty, pos, af, gd⟩).run G.P w = .ok (.value (.pointer (some ⟨w.heap.size, 0, none⟩))) (w.alloc (.stringIter b 0)) := by
      simp [execOp, hv, Instr.range, run_underlying ht]
    unfold Oper.wp
    rw [hrun, Oper.upon_value]
    exact hnx _ _ ⟨_, (hr.newIter hsm).put (by rw [hK.1]; exact hn) (.c (.ref (Ren.set_same _ _ _)))⟩

theorem SimR.moveIter (h : SimR K ρ s a w) {m : Nat} {b : ByteArray} {p p' : Nat} {δ : Desc} (hm : s.mem.lookup m = some (.iter b p)) (hδ : ρ m = some δ) (hb : w.heap[δ.blk]? = some (.stringIter b p)) :
    SimR K ρ { s with mem := (m, .iter b p') :: s.mem } a { w with heap := w.heap.setIfInBounds δ.blk (.stringIter b p') } := by
  have hsz : δ.blk < w.heap.size := (Array.getElem?_eq_some_iff.1 hb).1
  generalize hw' : ({ w with heap := w.heap.setIfInBounds δ.blk (.stringIter b p') } : World) = w'
  have hoth : ∀ g, g ≠ δ.blk → w'.heap[g]? = w.heap[g]? := fun g hg => by
    rw [← hw']; simp [Array.getElem?_setIfInBounds, Ne.symm hg]
  have hthis : w'.heap[δ.blk]? = some (.stringIter b p') := by rw [← hw']; simp [hsz]
  have hsize : w'.heap.size = w.heap.size := by rw [← hw']; simp
  have hos : w'.os = w.os ∧ w'.tape = w.tape ∧ w'.output = w.output := by rw [← hw']; exact ⟨rfl, rfl, rfl⟩
  have hWr : ∀ g o, Wr ρ ((m, .iter b p') :: s.mem) g o ↔ Wr ρ s.mem g o := by
    intro g o
    constructor
    · rintro ⟨i, ob, δ1, h1, h2, h3⟩
      rw [lookup_cons] at h1
      by_cases e : i = m
      · subst e; simp at h1; subst h1
        exact ⟨i, _, δ1, hm, h2, h3⟩
      · rw [if_neg e] at h1; exact ⟨i, ob, δ1, h1, h2, h3⟩
    · rintro ⟨i, ob, δ1, h1, h2, h3⟩
      by_cases e : i = m
      · subst e; rw [hm] at h1; cases h1
        exact ⟨i, .iter b p', δ1, by rw [lookup_cons]; simp, h2, h3⟩
      · exact ⟨i, ob, δ1, by rw [lookup_cons, if_neg e]; exact h1, h2, h3⟩
  have hF : Fs K ρ ((m, .iter b p') :: s.mem) = Fs K ρ s.mem := by
    funext g o; simp only [Fs, hWr]
  have hst : Stays (Fs K ρ s.mem) w (Fs K ρ ((m, .iter b p') :: s.mem)) w' := fun g o u x y => by
    rw [hF]
    refine ⟨x, ?_⟩
    have hne : g ≠ δ.blk := fun e => by
      subst e; simp [World.cell?, hb] at y
    simp only [World.cell?] at y ⊢
    rw [hoth g hne]; exact y
  have hkk : KeepsKind w w' := fun g arr t fr e => by
    have hne : g ≠ δ.blk := fun e' => by subst e'; rw [hb] at e; cases e
    exact ⟨arr, (hoth g hne).trans e, rfl⟩
  have key : ∀ {i : Nat} {ob : Ob}, List.lookup i ((m, Ob.iter b p') :: s.mem) = some ob → (i = m ∧ ob = .iter b p') ∨ (i ≠ m ∧ s.mem.lookup i = some ob) := fun {i ob} hi => by
    rw [lookup_cons] at hi
    by_cases e' : i = m
    · rw [if_pos e'] at hi; cases hi; exact .inl ⟨e', rfl⟩
    · rw [if_neg e'] at hi; exact .inr ⟨e', hi⟩
  refine h.move (Ren.le_refl _) hst (fun i ob hi => ?_) (fun i hi => ?_) (fun i i' ob1 ob2 δ1 δ2 g o h1 h2 r1 r2 n1 n2 => ?_) (fun g o hw => by rw [hsize]; exact h.wr g o ((hWr g o).1 hw)) ?_
  · rcases key hi with ⟨rfl, rfl⟩ | ⟨hne, hi⟩
    · exact .iter hδ hthis
    · refine (h.mem i ob hi).stays hst (Ren.le_refl _) hkk (fun δ' hδ' hw => hoth _ fun e => hne ?_)
      exact h.dist i m ob (.iter b p) δ' δ δ'.blk 0 hi hm hδ' hδ (Ob.whole_wr hw δ' 0) e
  · rw [lookup_cons] at hi
    by_cases e' : i = m
    · rw [if_pos e'] at hi; cases hi
    · rw [if_neg e'] at hi; exact h.dom i hi
  · rcases key h1 with ⟨c1, c2⟩ | ⟨c1, c2⟩ <;> rcases key h2 with ⟨d1, d2⟩ | ⟨d1, d2⟩
    · rw [c1, d1]
    · subst c1; subst c2
      exact h.dist i i' (.iter b p) ob2 δ1 δ2 g o hm d2 r1 r2 n1 n2
    · subst d1; subst d2
      exact h.dist i i' ob1 (.iter b p) δ1 δ2 g o c2 hm r1 r2 n1 n2
    · exact h.dist i i' ob1 ob2 δ1 δ2 g o c2 d2 r1 r2 n1 n2
  · refine h.fr.trans (L' := fun g _ => g = δ.blk) ⟨hos.1, hos.2.1, hos.2.2, by rw [hsize]; exact Nat.le_refl _, fun g hg => ?_⟩ (fun g j hg e => ?_)
    · by_cases e : g = δ.blk
      · subst e
        exact .inr (.inr ⟨rfl, b, p, p', hb, hthis⟩)
      · exact .inl (hoth g e)
    · rcases (h.wr g j ⟨m, _, δ, hm, hδ, e⟩).2.2 with x | x
      · exact x
      · omega

def nextA (b : ByteArray) (p : Nat) : List A := if p < b.size then [A.bool true, A.i64 p, A.val (.int .i32 (Utf8.decode b p).1)] else [A.bool false]
def nextPos (b : ByteArray) (p : Nat) : Nat := if p < b.size then p + (Utf8.decode b p).2 else p
theorem r_next {x : Operand} {b : ByteArray} {m p : Nat} (hx : ev sl x = some (.c (.ref m 0))) (hm : lk mem m = some (.iter b p)) (hn : d < G.n) :
    OpR G ⟨some d, .next x true, ty, pos, af, gd⟩ sl mem ⟨rd sl [x], [(m, .iter b p)], [(d, .tup (nextA b p))], [(m, .iter b (nextPos b p))]⟩ where
  rs := rd_ok sl _
  rm := fun q hq => by simp at hq; subst hq; rw [← lk_eq]; exact hm
  wm := fun q hq => by simp at hq; subst hq; left; simp
  ok := fun K hK s a w hs htr next Q hnx => by
    obtain ⟨ρ, hr⟩ := hs
    have h1 := rep_of hr htr.rs (by simp) (fun v e => by subst e; simp [ev] at hx) hx
    have hsm := htr.rm (m, .iter b p) (by simp)
    have hsat := hr.mem m _ hsm
    generalize hv : a.eval x = v at h1
    cases h1 with | c h1 => cases h1 with | ref hδ =>
    cases hsat with
    | iter q1 q2 =>
      rw [hδ] at q1; cases q1
      rename_i δ
      have hsim := hr.moveIter (p' := nextPos b p) hsm hδ q2
      have hone : ∀ u : Int, (Value.int .i64 u).oneCell' = true := fun _ => rfl
      unfold Oper.wp
      by_cases hp : p < b.size
      · have hrun : (execOp a.eval ⟨some d, .next x true, ty, pos, af, gd⟩).run G.P w = .ok (.value (.tuple #[.bool true, .int .i64 p, .int .i32 (Utf8.decode b p).1])) { w with heap := w.heap.setIfInBounds δ.blk (.stringIter b (nextPos b p)) } := by
          simp only [execOp, hv, Instr.next, getObj, setObj, Sem.run_bind, Sem.run, q2, Result.andThen, hp, if_true, nextPos]
          simp [goInt]
        rw [hrun, Oper.upon_value]
        refine hnx _ _ ⟨ρ, hsim.put (by rw [hK.1]; exact hn) ?_⟩
        refine .tup (by simp [nextA, hp]) (fun i y hy => ?_)
        rw [nextA, if_pos hp] at hy
        match i, hy with
        | 0, hy => simp at hy; subst hy; exact .c (.d (.v rfl))
        | 1, hy => simp at hy; subst hy; exact .c (.d (.v rfl))
        | 2, hy => simp at hy; subst hy; exact .c (.d (.v rfl))
      · have hself : ({ w with heap := w.heap.setIfInBounds δ.blk (.stringIter b (nextPos b p)) } : World) = w := by
          have : w.heap.setIfInBounds δ.blk (.stringIter b (nextPos b p)) = w.heap := by
            apply Array.ext_getElem?
            intro i
            rw [Array.getElem?_setIfInBounds]
            by_cases e : δ.blk = i
            · subst e
              rw [if_pos rfl, if_pos (Array.getElem?_eq_some_iff.1 q2).1, q2, nextPos, if_neg hp]
            · rw [if_neg e]
          rw [this]
        rw [hself] at hsim
        have hrun : (execOp a.eval ⟨some d, .next x true, ty, pos, af, gd⟩).run G.P w = .ok (.value (.tuple #[.bool false])) w := by
          simp only [execOp, hv, Instr.next, getObj, Sem.run_bind, Sem.run, q2, Result.andThen, hp, if_false]
          rfl
        rw [hrun, Oper.upon_value]
        refine hnx _ _ ⟨ρ, hsim.put (by rw [hK.1]; exact hn) ?_⟩
        refine .tup (by simp [nextA, hp]) (fun i y hy => ?_)
        rw [nextA, if_neg hp] at hy
        match i, hy with
        | 0, hy => simp at hy; subst hy; exact .c (.d (.v rfl))

end Go.Am
