import Derived.Test.YtihcfphmikebgaaPar30
namespace Go.Par
open Go Go.Am Go.Proofs Go.RowKit
set_option linter.unusedVariables false

/-- The law's walk, as the kit's rows ask it. -/
theorem law_calls (s : ByteArray) (w : World) : Calls Try.prog 3 #[.string s] w fun e w' => e = .returned (.bool true) ∧ Below w.heap.size w w' := by
  have hW : ∀ (ρ : Ren) (g o : Nat), ¬ Wr ρ [] g o := fun ρ g o ⟨m, ob, δ, h, _⟩ => by simp at h
  have hms : MS (fun _ _ => False) (fun _ => none) [] w := ⟨fun m ob h => by simp at h, fun _ _ => rfl, fun m m' ob ob' δ δ' g o h => by simp at h, fun g o h => absurd h (hW _ g o), fun g o h => h.elim⟩
  have h := law_all s (fun _ _ => False) (fun _ => none) w #[.string s] hms rfl (fun i x hx => by
    match i, hx with
    | 0, hx => simp at hx; subst hx; exact .c (.d (.v rfl)))
  refine Calls.mono h fun e w' ⟨v, ρ', h0, _, _, h3, _, h5⟩ => ?_
  subst h0
  refine ⟨by rw [h3.val], ?_⟩
  exact (h5.weaken (L' := fun _ _ => False) (fun g j x => absurd x (hW _ g j))).below

end Go.Par
