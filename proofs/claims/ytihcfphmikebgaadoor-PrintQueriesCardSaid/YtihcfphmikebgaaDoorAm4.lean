/- append on a slice of one's own. -/
import Derived.Test.YtihcfphmikebgaaDoorAm3
namespace Go.Am
open Go.RowKit
set_option linter.unusedVariables false

variable {K : Ctx} {ρ ρ' : Ren} {s : St} {a : Act} {w w' : World} {F : Loc}

/-- The room behind a slice passes to a new name; what is written lies in that room. -/
theorem SimR.regrow (h : SimR K ρ s a w) {m m' k : Nat} {e : TypeId} {δ δ' : Desc} (hm : s.mem.lookup m = some (.perm k e)) (hm' : s.mem.lookup m' = none) (hδ : ρ m = some δ)
    (e1 : δ'.blk = δ.blk) (e2 : δ'.cap = δ.cap) (e3 : δ.len ≤ δ'.len) (e4 : δ'.len ≤ δ'.cap)
    (hw : w' = w ∨ ∃ arr arr' : Array Value, w.heap[δ.blk]? = some (Obj.cells arr e (0, 0)) ∧ w' = w.setRow δ.blk arr' ∧ arr'.size = arr.size ∧ ∀ j, (j < δ.len * k ∨ δ.cap * k ≤ j) → arr'[j]? = arr[j]?) :
    SimR K (ρ.set m' δ') { s with mem := (m', .perm k e) :: (m, .gone) :: s.mem } a w' := by
  have hne : m ≠ m' := fun e => by rw [e, hm'] at hm; cases hm
  have hle := Ren.le_set (h.dom m' hm') δ'
  have hmul : δ.len * k ≤ δ'.len * k := Nat.mul_le_mul_right k e3
  have hWr : ∀ g o, Wr (ρ.set m' δ') ((m', .perm k e) :: (m, .gone) :: s.mem) g o → Wr ρ s.mem g o := by
    rintro g o ⟨i, ob', δ1, h1, h2, h3⟩
    rw [lookup_cons] at h1
    by_cases c1 : i = m'
    · rw [if_pos c1] at h1; cases h1
      rw [c1, Ren.set_same] at h2; cases h2
      obtain ⟨x1, x2, x3⟩ := h3
      exact ⟨m, _, δ, hm, hδ, x1.trans e1, Nat.le_trans hmul x2, by rw [e2] at x3; exact x3⟩
    · rw [if_neg c1, lookup_cons] at h1
      rw [Ren.set_other ρ δ' c1] at h2
      by_cases c2 : i = m
      · rw [if_pos c2] at h1; cases h1; exact h3.elim
      · rw [if_neg c2] at h1; exact ⟨i, ob', δ1, h1, h2, h3⟩
  have hin : ∀ o, δ.len * k ≤ o → o < δ.cap * k → Wr ρ s.mem δ.blk o := fun o h1 h2 => ⟨m, _, δ, hm, hδ, rfl, h1, h2⟩
  -- the world
  have hkk : KeepsKind w w' := by
    rcases hw with rfl | ⟨arr, arr', hb, rfl, hsz, hj⟩
    · exact .of_eq fun _ _ => rfl
    · intro g arr2 t2 fr2 x
      rw [setRow_get]
      by_cases eg : g = δ.blk
      · subst eg
        rw [hb] at x; cases x
        exact ⟨arr', by rw [if_pos rfl, hb], hsz⟩
      · exact ⟨arr2, by rw [if_neg eg]; exact x, rfl⟩
  have hcell : ∀ g o u, ¬ (g = δ.blk ∧ δ.len * k ≤ o ∧ o < δ.cap * k) → w.cell? ⟨g, o, none⟩ = some u → w'.cell? ⟨g, o, none⟩ = some u := by
    intro g o u hn hc
    rcases hw with rfl | ⟨arr, arr', hb, rfl, hsz, hj⟩
    · exact hc
    · simp only [World.cell?, setRow_get, Option.isSome_none] at hc ⊢
      by_cases eg : g = δ.blk
      · subst eg
        rw [if_pos rfl, hb]
        rw [hb] at hc
        simp only at hc ⊢
        rw [if_neg (by simp)] at hc ⊢
        rw [hj o (by omega)]; exact hc
      · rw [if_neg eg]; exact hc
  have hblk : ∀ g, g ≠ δ.blk ∨ ¬ (δ.len * k < δ.cap * k) → w'.heap[g]? = w.heap[g]? := by
    intro g hg
    rcases hw with rfl | ⟨arr, arr', hb, rfl, hsz, hj⟩
    · rfl
    · rw [setRow_get]
      by_cases eg : g = δ.blk
      · subst eg
        rw [if_pos rfl, hb]
        have : arr' = arr := by
          apply Array.ext_getElem?
          intro j
          exact hj j (by rcases hg with hg | hg <;> first | exact absurd rfl hg | omega)
        rw [this]
      · rw [if_neg eg]
  have hst : Stays (Fs K ρ s.mem) w (Fs K (ρ.set m' δ') ((m', .perm k e) :: (m, .gone) :: s.mem)) w' := fun g o u h1 h2 =>
    ⟨fun x => h1 (x.imp id (hWr g o)), hcell g o u (fun ⟨x, y, z⟩ => h1 (.inr (x ▸ hin o y z))) h2⟩
  refine h.move hle hst (fun i ob' hi => ?_) (fun i hi => ?_) (fun i i' ob1 ob2 δ1 δ2 g o h1 h2 r1 r2 n1 n2 => ?_) (fun g o hw' => ?_) ?_
  · rw [lookup_cons] at hi
    by_cases c1 : i = m'
    · rw [if_pos c1] at hi; cases hi
      subst c1
      have hsat := h.mem m _ hm
      cases hsat with
      | perm x1 x2 x3 x4 x5 =>
        rw [hδ] at x1; cases x1
        obtain ⟨arr', y1, y2⟩ := hkk _ _ _ _ x2
        exact .perm (Ren.set_same _ _ _) (by rw [e1]; exact y1) e4 (by rw [e2]; exact x4) (by rw [y2, x5, e2])
      | permNil x1 x2 => rw [hδ] at x1; cases x1; exact .permNil (Ren.set_same _ _ _) (by rw [e2]; exact x2)
    · rw [if_neg c1, lookup_cons] at hi
      by_cases c2 : i = m
      · rw [if_pos c2] at hi; cases hi; exact .gone
      · rw [if_neg c2] at hi
        refine (h.mem i ob' hi).stays hst hle hkk (fun δ1 hδ1 hcs => hblk _ ?_)
        by_cases c3 : δ1.blk = δ.blk
        · refine .inr fun hlt => c2 ?_
          exact h.dist i m _ _ δ1 δ δ.blk (δ.len * k) hi hm hδ1 hδ (c3 ▸ Ob.whole_wr hcs δ1 _) ⟨rfl, Nat.le_refl _, hlt⟩
        · exact .inl c3
  · rw [lookup_cons] at hi
    by_cases c1 : i = m'
    · simp [c1] at hi
    · rw [if_neg c1, lookup_cons] at hi
      by_cases c2 : i = m
      · simp [c2] at hi
      · rw [if_neg c2] at hi; rw [Ren.set_other ρ δ' c1]; exact h.dom i hi
  · -- who writes where
    have key : ∀ (i : Nat) (ob : Ob) (δ1 : Desc), List.lookup i ((m', Ob.perm k e) :: (m, Ob.gone) :: s.mem) = some ob → (ρ.set m' δ') i = some δ1 → ob.wr δ1 g o →
        (i = m' ∧ (Ob.perm k e).wr δ g o) ∨ (i ≠ m' ∧ i ≠ m ∧ s.mem.lookup i = some ob ∧ ρ i = some δ1) := by
      intro i ob δ1 x1 x2 x3
      rw [lookup_cons] at x1
      by_cases c1 : i = m'
      · rw [if_pos c1] at x1; cases x1
        rw [c1, Ren.set_same] at x2; cases x2
        obtain ⟨y1, y2, y3⟩ := x3
        exact .inl ⟨c1, y1.trans e1, Nat.le_trans hmul y2, by rw [e2] at y3; exact y3⟩
      · rw [if_neg c1, lookup_cons] at x1
        rw [Ren.set_other ρ δ' c1] at x2
        by_cases c2 : i = m
        · rw [if_pos c2] at x1; cases x1; exact x3.elim
        · rw [if_neg c2] at x1; exact .inr ⟨c1, c2, x1, x2⟩
    rcases key i ob1 δ1 h1 r1 n1 with ⟨c1, y1⟩ | ⟨c1, c2, y1, y2⟩ <;> rcases key i' ob2 δ2 h2 r2 n2 with ⟨d1, z1⟩ | ⟨d1, d2, z1, z2⟩
    · rw [c1, d1]
    · exact absurd (h.dist m i' _ ob2 δ δ2 g o hm z1 hδ z2 y1 n2).symm d2
    · exact absurd (h.dist i m ob1 _ δ1 δ g o y1 hm y2 hδ n1 z1) c2
    · exact h.dist i i' ob1 ob2 δ1 δ2 g o y1 z1 y2 z2 n1 n2
  · have hsize : w'.heap.size = w.heap.size := by
      rcases hw with rfl | ⟨arr, arr', hb, rfl, _⟩
      · rfl
      · simp [World.setRow]
    rw [hsize]; exact h.wr g o (hWr g o hw')
  · rcases hw with rfl | ⟨arr, arr', hb, rfl, hsz, hj⟩
    · exact h.fr
    · refine h.fr.trans (L' := fun g j => g = δ.blk ∧ δ.len * k ≤ j ∧ j < δ.cap * k) ⟨rfl, rfl, rfl, by simp [World.setRow], fun g _ => ?_⟩ (fun g j hg x => ?_)
      · by_cases eg : g = δ.blk
        · subst eg
          exact .inr (.inl ⟨arr, arr', e, (0, 0), hb, by rw [setRow_get, if_pos rfl, hb], hsz, fun j hj' => hj j (by omega)⟩)
        · exact .inl (by rw [setRow_get, if_neg eg])
      · obtain ⟨x1, x2, x3⟩ := x
        subst x1
        rcases (h.wr δ.blk j (hin j x2 x3)).2.2 with y | y
        · exact y
        · omega

theorem growBy_le (newLen c : Nat) (h : c < newLen) (h2 : 256 ≤ c) : ∀ n, Builtin.growBy newLen n c ≤ 2 * newLen := by
  intro n
  induction n generalizing c with
  | zero => simp only [Builtin.growBy]; omega
  | succ n ih =>
    simp only [Builtin.growBy]
    split
    · omega
    · by_cases h3 : c + (c + 768) / 4 < newLen
      · exact ih _ h3 (by omega)
      · cases n with
        | zero => simp only [Builtin.growBy]; omega
        | succ n => simp only [Builtin.growBy]; rw [if_pos (by omega)]; omega

theorem nextslicecap_le (newLen oldCap : Nat) (h : oldCap < newLen) : Builtin.nextslicecap newLen oldCap ≤ 2 * newLen := by
  unfold Builtin.nextslicecap
  split
  · omega
  · split
    · omega
    · exact growBy_le _ _ h (by omega) 4

end Go.Am
