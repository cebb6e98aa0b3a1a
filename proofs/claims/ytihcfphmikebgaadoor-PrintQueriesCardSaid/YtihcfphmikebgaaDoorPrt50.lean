/- The law trommellaw10.PrintQueries returns true, without a panic, for every string. Each query that parse.Query tells has a written form (QyT); its text is cut into just these tokens (query_wr) and parsed to the same query (query_back); what a parse tells has a written form of no more tokens (queryP_out). -/
import Derived.Test.YtihcfphmikebgaaDoorRows
import Derived.Test.YtihcfphmikebgaaDoorTie
import Derived.Test.YtihcfphmikebgaaDoorCards
import Derived.Test.YtihcfphmikebgaaDoorPrt49
import Derived.Lib.LaidTab
import Derived.WalkKit
import Derived.ProofKit
import Derived.LaidMore
import Derived.OpenShut
import Derived.ShutString
import Derived.Test.YtihcfphmikebgaaDoorAm21
import Derived.Stop.Joined
import Derived.Carry
import Derived.ChangeOld
import Derived.SevenTiedAt
namespace Go.Proofs.YtihcfphmikebgaaDoor
open Go Go.Am Go.Par Go.ChangeShapes Go.WideShapes Go.ChangeAt Go.RowKit
set_option linter.unusedVariables false

theorem own : ownKnob Tryd.prog.godebug = none := by kernel_rfl
abbrev laid3 : List (String × DataW Unit) := [("math/bits.deBruijn32tab", Rows.laid_math_bits_deBruijn32tab), ("math/bits.deBruijn64tab", Rows.laid_math_bits_deBruijn64tab), ("internal/strconv.uint64pow10", Rows.laid_internal_strconv_uint64pow10)]
theorem laid_tail {P : Program} {x : String × DataW Unit} {rest : List (String × DataW Unit)} {W : World} (h : laidMet P (x :: rest) W) : laidMet P rest W := by
  obtain ⟨ps, h1, h2, h3⟩ := h
  obtain ⟨g, t, cs, fuel, p, q, _, _, _, _, h4, rfl⟩ := h1
  exact ⟨q, h4, (List.nodup_append.1 h2).2.1, fun b off hb => h3 b off (by simp [hb])⟩
/-- What the row lists gives the table. -/
theorem tab_of {W : World} (h : laidMetH Tryd.prog laid3 W) : Lib.TabIs Tryd.prog W "internal/strconv.uint64pow10" .u64 Lib.pow10Tab := by
  rw [MakeChecks.laidMetH_plain _ _ _ (by kernel_rfl)] at h
  have h2 := laid_tail (laid_tail h)
  exact Lib.tabIs_of_head (rest := []) (g := 0) (by kernel_rfl) (by kernel_rfl) (t := 111) (e := 79) (n := 20) (by kernel_rfl) (by kernel_rfl) (by kernel_rfl) (by kernel_rfl) h2
theorem door_met (os : Os) (args : Array Value) : laidMetH Tryd.prog laid3 ((World.doorLaid Tryd.prog 400 os).forCall (fun _ _ => 0) ⟨#[], args, []⟩).memory := by
  rw [MakeChecks.laidMetH_plain _ _ _ (by kernel_rfl)]
  exact laidMet_of_run' 8 (by kernel_rfl) (by kernel_rfl)
/-- Where the table lies, memory is what a contract asks. -/
theorem ms_pow {W : World} (h : Lib.TabIs Tryd.prog W "internal/strconv.uint64pow10" .u64 Lib.pow10Tab) : MS NoF (fun m => if m = 90 then some ⟨0, 0, 0⟩ else none) [(90, pow)] W := by
  have hw : ∀ g o, ¬ Wr (fun m => if m = 90 then some ⟨0, 0, 0⟩ else none) [(90, pow)] g o := by
    rintro g o ⟨m, ob, δ, h1, _, h3⟩
    rw [lookup_cons] at h1
    split at h1
    · cases h1; exact h3
    · simp at h1
  have hg : Tryd.prog.globalNamed "internal/strconv.uint64pow10" = some 0 := by kernel_rfl
  unfold Lib.TabIs World.var? at h
  rw [hg] at h
  simp only [Option.bind_some] at h
  obtain ⟨cs, t, fr, hb, hc⟩ : ∃ cs t fr, W.heap[0]? = some (.cells cs t fr) ∧ cs = (Lib.pow10Tab.map fun z => Value.int .u64 z).toArray := by
    split at h
    · rename_i cs t fr hh
      exact ⟨cs, t, fr, hh, by simpa using h⟩
    · cases h
  refine ⟨fun m ob hm => ?_, fun m hm => ?_, fun m m' ob ob' δ δ' g o h1 h2 h3 h4 h5 => absurd ⟨m, ob, δ, h1, h3, h5⟩ (hw g o), fun g o hh => absurd hh (hw g o), fun g o hh => hh.elim⟩
  · rw [lookup_cons] at hm
    split at hm
    · rename_i e
      cases hm
      refine .tab (δ := ⟨0, 0, 0⟩) (by rw [if_pos e]) hb (by rw [hc]; simp) (fun i v hv => ⟨?_, ?_⟩)
      · rintro (x | x)
        · exact x
        · exact hw _ _ x
      · simp only [World.cell?, hb, hc]
        simpa using hv
    · simp at hm
  · rw [lookup_cons] at hm
    split at hm
    · cases hm
    · rename_i e; exact if_neg e
theorem stay {W : World} {ρ : Ren} {mem : List (Nat × Ob)} (h : ∀ g o, ¬ Wr ρ mem g o) : Stays NoF W (fun g o => NoF g o ∨ Wr ρ mem g o) W := fun g o u _ y => ⟨fun z => z.elim (fun z => z) (h g o), y⟩
namespace printQueries
open Go.ChangeMaps (open_string shut_string)
theorem walk {W : World} (ht : Lib.TabIs Tryd.prog W "internal/strconv.uint64pow10" .u64 Lib.pow10Tab) (s : ByteArray) :
    Calls Tryd.prog 5 #[.string s] W fun e W' => e = .returned (.bool true) ∧ Below W.heap.size W W' := by
  have hms := ms_pow ht
  have hw : ∀ g o, ¬ Wr (fun m => if m = 90 then some ⟨0, 0, 0⟩ else none) [(90, pow)] g o := by
    rintro g o ⟨m, ob, δ, h1, _, h3⟩
    rw [lookup_cons] at h1
    split at h1
    · cases h1; exact h3
    · simp at h1
  refine Calls.mono (queries_p s NoF _ W #[.string s] hms rfl fun i x hx => ?_) fun e W' ⟨v, ρ', h2, _, _, h3, _, h5⟩ => ?_
  · match i, hx with
    | 0, hx => simp at hx; subst hx; exact .c (.d (.v rfl))
  · subst h2
    refine ⟨by rw [h3.val], ?_⟩
    exact (h5.weaken (L' := fun _ _ => False) (fun g j x => absurd x (hw g j))).below
set_option maxRecDepth 100000 in
theorem lifted (os : Os) (started : os.Started) (H : Type) (enc : TypeId × Value → H) :
    ReturnsInHanded {} Tryd.checked os 5 .any (fun w args => (Rows.printQueriesSpec.pre enc Tryd.prog Tryd.f5 [] false w args ∧ laidMetH Tryd.prog laid3 w) ∧ sizedMet enc Tryd.prog Tryd.f5 (OpenSpec.ofChange Rows.printQueriesSpec) false w args)
      (Rows.printQueriesSpec.post enc Tryd.prog Tryd.f5 false true false false) := by
  refine returnsInHanded_of_change_and (C := Tryd.checked) (X := fun w _ => laidMetH Tryd.prog laid3 w) (fun _ _ _ hh h => h.of_heap hh) own started (by kernel_rfl) Tryd.func5
    (ChangeSpec.witness_shaped (enc := enc) (C := Tryd.checked) (os := os) (X := fun w _ => laidMetH Tryd.prog laid3 w) false (World.doorLaid Tryd.prog 400 os)
      #[.string ⟨#[]⟩]
      8 rfl (World.shaped_of_RefB (by kernel_rfl) (by kernel_rfl)) (by kernel_rfl) (by kernel_rfl) (by kernel_rfl) (door_met os _)) ?_
  intro W base args ds gs before hval0 hW _ hsz0 hL _
  have hval : ∀ (j : Nat) t v, Tryd.f5.params[j]? = some t → args[j]? = some v → Value.okWide Tryd.prog W .any base t v := hval0
  have hW' := hW
  obtain ⟨p, q, hA0, hV, rfl, hfz, hnd⟩ := hW
  have hA : DataW.TrodAll enc Tryd.prog W 0 (fun _ => true) true Tryd.f5.params.toList args.toList ds p := hA0
  rw [Tryd.params5] at hA hval
  obtain ⟨v0, vs0, d0, ds0, p0, q0, hargs0, rfl, rfl, h0, r0⟩ := trodAll_cons hA
  obtain ⟨rfl, rfl, rfl⟩ := trodAll_nil r0
  obtain rfl : args = #[v0] := by cases args; simp_all
  obtain ⟨rfl, rfl⟩ := trodVars_none hV
  obtain ⟨a0, rfl, rfl, rfl, y0⟩ := open_string Tryd.underlying9 (hval 0 9 v0 rfl rfl) h0
  clear hA0 hval0 hsz0
  refine (walk (tab_of hL) a0).mono fun e W' ⟨he, bel⟩ => ?_
  subst he
  exact ⟨_, rfl, _, _, _, [], _, [], hW', trodAll_mk1 (shut_bool Tryd.underlying4 _), (trodAll_cons_mk (shut_string Tryd.underlying9 y0) trodAll_mk0), rfl, bel.frame _, fun h => by cases h⟩
theorem said : Rows.PrintQueriesSaid :=
  OpenClaim.holds_of_wide 5 Tryd.f5 rfl rfl rfl rfl rfl rfl rfl ⟨rfl, rfl, rfl, rfl, rfl⟩ rfl rfl rfl rfl rfl (by kernel_rfl) Tryd.func5 (by kernel_rfl)
    (of_decide_eq_true (by kernel_rfl)) (by unfold Func.isWrapper; first | (rw [if_pos (by decide +kernel)]; kernel_rfl) | (rw [if_neg (by decide +kernel)]; exact ⟨rfl, rfl⟩))
    (fun os started H enc _ => lifted os started H enc)
theorem card : Rows.PrintQueriesCardSaid :=
  Claim7.holds_tied_plain_at .later [] [.data, .data, .data] true (true, "5743e3348eacde2b3b082ce73700dbdda8bf308987f97a565c8c9b16efeb1725") false
    said (fun _ h => by cases h) (by kernel_rfl) (fun _ h => by cases h) printQueries_row_tie rfl ⟨rfl, rfl⟩ (by kernel_rfl) rfl
    (fun f fn hf hfn => by
      obtain rfl : f = 5 := Option.some.inj ((show Tryd.prog.funcNamed "trommel/trommellaw10.PrintQueries" = some 5 by kernel_rfl).symm.trans hf) |>.symm
      obtain rfl : fn = Tryd.f5 := (Option.some.inj (Tryd.func5.symm.trans hfn)).symm
      exact ⟨by kernel_rfl, fun j t ht => by
        rw [Tryd.params5] at ht
        have hm : t ∈ [9] := by simpa using Array.mem_of_getElem? ht
        have hall : ([9].all fun u => !Tryd.prog.wantsStandIn u) = true := by kernel_rfl
        exact (show Tryd.prog.wantsStandIn t = false by simpa using List.all_eq_true.1 hall t hm)⟩)
    (by kernel_rfl)
#print axioms card
end printQueries
/-- The card, under a short name, for the claim. -/
theorem printQueries_holds : Rows.PrintQueriesCardSaid := printQueries.card
end Go.Proofs.YtihcfphmikebgaaDoor
