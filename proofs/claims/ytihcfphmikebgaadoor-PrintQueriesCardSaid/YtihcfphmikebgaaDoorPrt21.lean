import Derived.Test.YtihcfphmikebgaaDoorPrt20
import Derived.Test.YtihcfphmikebgaaDoorPrtShelf
import Derived.Lib.Join
namespace Go.Par
open Go Go.Am Go.Proofs Go.RowKit
set_option linter.unusedVariables false
set_option linter.unusedSimpArgs false

/-! The library's -/
abbrev pow : Ob := .tab 0 (Lib.pow10Tab.map fun z => Value.int .u64 z)
theorem itoa_s (n : Int) (h0 : -9223372036854775808 ≤ n) (h1 : n ≤ 9223372036854775807) : Am.Spec Tryd.prog 34 [A.i64 n] [(90, pow)] (A.val (.string (itoaM n))) [(90, pow)] := spec_of_below fun F ρ w vs hms hlen hargs => by
  have hv : vs = #[.int .i64 n] := by
    have h := (hargs 0 _ rfl).val
    apply Array.ext
    · simpa using hlen.symm
    · intro i hi _
      have : i = 0 := by simp at hlen; omega
      subst this
      simpa [Array.getD_eq_getD_getElem?, hi] using h
  subst hv
  have htab : Lib.TabIs Tryd.prog w "internal/strconv.uint64pow10" .u64 Lib.pow10Tab := hms.tab (m := 90) rfl (by kernel_rfl)
  refine Calls.mono (Tryd.strconv_Itoa n h0 h1 w htab) fun e w' ⟨he, k, os, hw⟩ => ⟨_, he, .c (.d (.v rfl)), ?_⟩
  rw [hw]; exact Lib.below_grow _ _ (ler _) _ _
abbrev stRows (xs : List ByteArray) : List (List D) := xs.map fun x => [.v (.string x)]
def joinM (xs : List ByteArray) (sep : ByteArray) : ByteArray := ⟨(Lib.join (xs.map (·.data.toList)) sep.data.toList).toArray⟩
theorem sjoin_s (nn : Bool) (xs : List ByteArray) (sep : ByteArray) (hN : xs.length ≤ 140737488355328) (hl : (joinM xs sep).size ≤ 140737488355328) :
    Am.Fun Tryd.prog 53 [A.c (.d (.sl nn (stRows xs))), A.val (.string sep)] (A.val (.string (joinM xs sep))) := spec_of_below fun F ρ w vs hms hlen hargs => by
  have h1 := (hargs 1 _ rfl).val
  have h0 := hargs 0 _ rfl
  have hv : vs = #[vs.getD 0 undef, .string sep] := by
    apply Array.ext
    · simpa using hlen.symm
    · intro i hi _
      have : i = 0 ∨ i = 1 := by simp at hlen; omega
      rcases this with rfl | rfl
      · simp [Array.getD_eq_getD_getElem?, hi]
      · simpa [Array.getD_eq_getD_getElem?, hi] using h1
  cases h0 with | c h0 => cases h0 with | d h0 =>
  obtain ⟨A, c, e1, _, e2⟩ := h0.opened (k := 1) (by intro r hr; simp at hr; obtain ⟨_, _, rfl⟩ := hr; rfl)
  rw [hv, e1]
  simp only [List.length_map]
  rcases e2 with e2 | ⟨g, off, f, rfl, e3, e4, e5⟩
  · have hx : xs = [] := by simpa using e2
    subst hx
    refine Calls.mono (Tryd.strings_Join_none A c sep w) fun e w' ⟨he, hw⟩ => ⟨_, he, .c (.d (.v rfl)), ?_⟩
    rw [hw]; exact Below.refl _ _
  · by_cases hx : xs = []
    · subst hx
      refine Calls.mono (Tryd.strings_Join_none _ c sep w) fun e w' ⟨he, hw⟩ => ⟨_, he, .c (.d (.v rfl)), ?_⟩
      rw [hw]; exact Below.refl _ _
    · have hcell : ∀ (j : Nat) x, xs[j]? = some x → w.cell? ⟨g, off + j, none⟩ = some (.string x) := fun j x hj => by
        have hlt := (List.getElem?_eq_some_iff.1 hj).1
        have h2 := (e4 j 0 (by simpa using hlt) (by decide)).2
        have h3 := e5 j 0 [.v (.string x)] (.v (.string x)) (by simp [hj]) rfl
        have h4 := (RepA.c (.d h3) : RepA _ ρ w (A.val (.string x)) _).val
        rw [h4] at h2
        simpa using h2
      obtain ⟨x, hx0⟩ : ∃ x, xs[0]? = some x := by
        cases xs with
        | nil => exact absurd rfl hx
        | cons x _ => exact ⟨x, rfl⟩
      have hb := World.block_lt_of_cell? w _ (hcell 0 x hx0)
      refine Calls.mono (Tryd.strings_Join g off c xs sep w hcell hb hN (by simpa using e3) (by simpa [joinM, ByteArray.size] using hl)) fun e w' ⟨he, hw⟩ => ⟨_, he, .c (.d (.v rfl)), hw⟩
theorem joinM_nil (sep : ByteArray) : joinM [] sep = ⟨#[]⟩ := rfl
theorem joinM_one (x sep : ByteArray) : joinM [x] sep = x := by
  unfold joinM; rw [mpc, mpn, Lib.join_one]
theorem joinM_snoc {xs : List ByteArray} (h : xs ≠ []) (x sep : ByteArray) : joinM (xs ++ [x]) sep = joinM xs sep ++ sep ++ x := by
  obtain ⟨y, ys, rfl⟩ : ∃ y ys, xs = y :: ys := by
    cases xs with
    | nil => exact absurd rfl h
    | cons y ys => exact ⟨y, ys, rfl⟩
  apply ByteArray.ext
  simp [joinM, Lib.join_cons, Lib.joinTail, ByteArray.data_append]




end Go.Par
