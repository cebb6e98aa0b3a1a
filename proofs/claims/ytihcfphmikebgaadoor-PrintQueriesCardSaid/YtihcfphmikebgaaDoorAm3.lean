/- Slices: read, and grown. -/
import Derived.Test.YtihcfphmikebgaaDoorAm2
namespace Go.Am
open Go.RowKit

variable {K : Ctx} {ρ ρ' : Ren} {s : St} {a : Act} {w w' : World} {F : Loc}

/-- A slice that is read, laid open at a number of cells for each element. -/
theorem RepD.opened {nn : Bool} {rows : List (List D)} {v : Value} {k : Nat} (h : RepD F w (.sl nn rows) v) (hk : ∀ r ∈ rows, r.length = k) :
    ∃ A c, v = .slice A rows.length c ∧ (nn = true → A.isSome = true) ∧ (rows = [] ∨ ∃ (g off : Nat) (f : Nat → Nat → Value), A = some ⟨g, off, none⟩ ∧ rows.length ≤ c ∧
      (∀ i j, i < rows.length → j < k → ¬ F g (off + i * k + j) ∧ w.cell? ⟨g, off + i * k + j, none⟩ = some (f i j)) ∧
      (∀ (i j : Nat) (r : List D) (x : D), rows[i]? = some r → r[j]? = some x → RepD F w x (f i j))) := by
  cases h with
  | sl0 A c hn => exact ⟨A, c, rfl, hn, .inl rfl⟩
  | sl g off k' c f hc hk' hcell hr =>
    refine ⟨_, c, rfl, fun _ => rfl, ?_⟩
    cases rows with
    | nil => exact .inl rfl
    | cons r rows =>
      have e : k' = k := (hk' r (by simp)).symm.trans (hk r (by simp))
      subst e
      exact .inr ⟨g, off, f, rfl, hc, hcell, hr⟩

def flatOf (f : Nat → Nat → Value) (k n : Nat) : List Value := (List.range (n * k)).map fun q => f (q / k) (q % k)
theorem flatOf_length (f : Nat → Nat → Value) (k n : Nat) : (flatOf f k n).length = n * k := by simp [flatOf]
theorem flatOf_get (f : Nat → Nat → Value) (k n : Nat) {i j : Nat} (hi : i < n) (hj : j < k) : (flatOf f k n)[i * k + j]? = some (f i j) := by
  have hlt : i * k + j < n * k := by
    have : (i + 1) * k ≤ n * k := Nat.mul_le_mul_right k hi
    rw [Nat.add_mul] at this; omega
  have h1 : (i * k + j) / k = i := by
    rw [Nat.mul_comm, Nat.mul_add_div (by omega), Nat.div_eq_of_lt hj]; rfl
  have h2 : (i * k + j) % k = j := by
    rw [Nat.mul_comm, Nat.mul_add_mod, Nat.mod_eq_of_lt hj]
  simp only [flatOf, List.getElem?_map, List.getElem?_range hlt, Option.map_some, h1, h2]
theorem flatOf_inv (f : Nat → Nat → Value) (k n q : Nat) (u : Value) (h : (flatOf f k n)[q]? = some u) : ∃ i j, i < n ∧ j < k ∧ q = i * k + j ∧ u = f i j := by
  have hq : q < n * k := by
    rcases Nat.lt_or_ge q (n * k) with h' | h'
    · exact h'
    · rw [List.getElem?_eq_none (by rw [flatOf_length]; exact h')] at h; cases h
  have hk : 0 < k := by
    rcases Nat.eq_zero_or_pos k with e | e
    · subst e; simp at hq
    · exact e
  refine ⟨q / k, q % k, (Nat.div_lt_iff_lt_mul hk).2 hq, Nat.mod_lt _ hk, ?_, ?_⟩
  · have := Nat.div_add_mod q k; rw [Nat.mul_comm] at this; exact this.symm
  · simp only [flatOf, List.getElem?_map, List.getElem?_range hq, Option.map_some] at h
    exact (Option.some.inj h).symm

theorem add_none (g off j : Nat) : (⟨g, off, none⟩ : Addr).add j = ⟨g, off + j, none⟩ := by unfold Addr.add; split <;> simp_all

/-- What a slice's cells hold, as one list. -/
theorem RepD.flat {nn : Bool} {rows : List (List D)} {v : Value} {k : Nat} (h : RepD F w (.sl nn rows) v) (hk : ∀ r ∈ rows, r.length = k) :
    ∃ A c, ∃ f : Nat → Nat → Value, v = .slice A rows.length c ∧ (rows ≠ [] → ∃ g off, A = some ⟨g, off, none⟩ ∧ (∀ j u, (flatOf f k rows.length)[j]? = some u → w.cell? ((⟨g, off, none⟩ : Addr).add j) = some u)) ∧
      (∀ u ∈ flatOf f k rows.length, u.oneCell' = true) ∧
      (∀ (i j : Nat) (r : List D) (x : D), rows[i]? = some r → r[j]? = some x → RepD F w x (f i j)) := by
  obtain ⟨A, c, rfl, _, e | ⟨g, off, f, rfl, _, hc, hr⟩⟩ := h.opened hk
  · subst e
    exact ⟨A, c, fun _ _ => undef, rfl, fun h => absurd rfl h, by simp [flatOf], by simp⟩
  · refine ⟨_, c, f, rfl, fun _ => ⟨g, off, rfl, fun q u hu => ?_⟩, fun u hu => ?_, hr⟩
    · obtain ⟨i, j, hi, hj, rfl, rfl⟩ := flatOf_inv _ _ _ _ _ hu
      rw [add_none, ← Nat.add_assoc]
      exact (hc i j hi hj).2
    · obtain ⟨q, hq⟩ := List.mem_iff_getElem?.1 hu
      obtain ⟨i, j, hi, hj, rfl, rfl⟩ := flatOf_inv _ _ _ _ _ hq
      have hrow : rows[i]? = some rows[i] := List.getElem?_eq_getElem hi
      have hlen := hk rows[i] (List.getElem_mem hi)
      have hcell : rows[i][j]? = some (rows[i][j]'(by omega)) := List.getElem?_eq_getElem _
      exact (hr i j _ _ hrow hcell).one

/-- An object is given up. -/
theorem SimR.retire (h : SimR K ρ s a w) (m : Nat) : SimR K ρ { s with mem := (m, .gone) :: s.mem } a w := by
  have hWr : ∀ g o, Wr ρ ((m, .gone) :: s.mem) g o → Wr ρ s.mem g o := by
    rintro g o ⟨i, ob', δ', h1, h2, h3⟩
    rw [lookup_cons] at h1
    by_cases e : i = m
    · simp only [e, if_true, Option.some.injEq] at h1; subst h1; exact h3.elim
    · rw [if_neg e] at h1; exact ⟨i, ob', δ', h1, h2, h3⟩
  have hst : Stays (Fs K ρ s.mem) w (Fs K ρ ((m, .gone) :: s.mem)) w := fun g o u h1 h2 => ⟨fun x => h1 (x.imp id (hWr g o)), h2⟩
  refine h.move (Ren.le_refl _) hst (fun i ob' hi => ?_) (fun i hi => ?_) (fun i i' ob1 ob2 δ1 δ2 g o h1 h2 r1 r2 n1 n2 => ?_) (fun g o hw => h.wr g o (hWr g o hw)) h.fr
  · rw [lookup_cons] at hi
    by_cases e : i = m
    · simp only [e, if_true, Option.some.injEq] at hi; subst hi; exact .gone
    · rw [if_neg e] at hi; exact (h.mem i ob' hi).stays hst (Ren.le_refl _) (.of_eq fun _ _ => rfl) (fun _ _ _ => rfl)
  · rw [lookup_cons] at hi
    by_cases e : i = m
    · simp [e] at hi
    · rw [if_neg e] at hi; exact h.dom i hi
  · rw [lookup_cons] at h1 h2
    by_cases e1 : i = m
    · simp only [e1, if_true, Option.some.injEq] at h1; subst h1; exact n1.elim
    · by_cases e2 : i' = m
      · simp only [e2, if_true, Option.some.injEq] at h2; subst h2; exact n2.elim
      · rw [if_neg e1] at h1; rw [if_neg e2] at h2
        exact h.dist i i' ob1 ob2 δ1 δ2 g o h1 h2 r1 r2 n1 n2

/-- The rows of an old slice and of a new one, one behind the other in one block. -/
theorem RepD.joined {F' : Loc} {nn : Bool} {rows rows2 : List (List D)} {k g cap : Nat} {f f2 : Nat → Nat → Value}
    (hk : ∀ r ∈ rows, r.length = k) (hk2 : ∀ r ∈ rows2, r.length = k) (hcap : rows.length + rows2.length ≤ cap)
    (hc1 : ∀ i j, i < rows.length → j < k → ¬ F' g (i * k + j) ∧ w.cell? ⟨g, i * k + j, none⟩ = some (f i j))
    (hc2 : ∀ i j, i < rows2.length → j < k → ¬ F' g ((rows.length + i) * k + j) ∧ w.cell? ⟨g, (rows.length + i) * k + j, none⟩ = some (f2 i j))
    (hr1 : ∀ (i j : Nat) (r : List D) (x : D), rows[i]? = some r → r[j]? = some x → RepD F' w x (f i j))
    (hr2 : ∀ (i j : Nat) (r : List D) (x : D), rows2[i]? = some r → r[j]? = some x → RepD F' w x (f2 i j)) :
    RepD F' w (.sl nn (rows ++ rows2)) (.slice (some ⟨g, 0, none⟩) (rows.length + rows2.length) cap) := by
  have hl : rows.length + rows2.length = (rows ++ rows2).length := by simp
  rw [hl]
  refine .sl g 0 k cap (fun i j => if i < rows.length then f i j else f2 (i - rows.length) j) (by simpa using hcap) (fun r hr => ?_) (fun i j hi hj => ?_) (fun i j r x h1 h2 => ?_)
  · rcases List.mem_append.1 hr with h | h
    · exact hk r h
    · exact hk2 r h
  · simp only [List.length_append] at hi
    by_cases e : i < rows.length
    · simpa [e] using hc1 i j e hj
    · have := hc2 (i - rows.length) j (by omega) hj
      rw [show rows.length + (i - rows.length) = i by omega] at this
      simpa [e] using this
  · by_cases e : i < rows.length
    · rw [List.getElem?_append_left e] at h1
      simpa [e] using hr1 i j r x h1 h2
    · rw [List.getElem?_append_right (by omega)] at h1
      simpa [e] using hr2 _ j r x h1 h2

end Go.Am
