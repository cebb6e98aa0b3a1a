/- The law trommellaw10.PrintTells returns true, without a panic, for every expression, query and sign; its row lists three tables of Go's library, tied to the program's text. -/
import Derived.Test.YtihcfphmikebgaaDoorRows
import Derived.Test.YtihcfphmikebgaaDoorTie
import Derived.Test.YtihcfphmikebgaaDoorCards
import Derived.Test.YtihcfphmikebgaaDoorPrt30
import Derived.Lib.LaidTab
import Derived.WalkKit
import Derived.ProofKit
import Derived.LaidMore
import Derived.OpenShut
import Derived.Stop.Joined
import Derived.Carry
import Derived.ChangeOld
import Derived.SevenTiedAt
namespace Go.Proofs.YtihcfphmikebgaaDoor
open Go Go.Am Go.Par Go.ChangeShapes Go.WideShapes Go.ChangeAt Go.RowKit
set_option linter.unusedVariables false

theorem own : ownKnob Tryd.prog.godebug = none := by kernel_rfl
abbrev laid3 : List (String × DataW Unit) := [("math/bits.deBruijn32tab", Rows.laid_math_bits_deBruijn32tab), ("math/bits.deBruijn64tab", Rows.laid_math_bits_deBruijn64tab), ("internal/strconv.uint64pow10", Rows.laid_internal_strconv_uint64pow10)]
theorem laid_tail {P : Program} {x : String × DataW Unit} {rest : List (String × DataW Unit)} {W : World} (h : laidMet P (x :: rest) W) : laidMet P rest W := by
  obtain ⟨ps, h1, h2, h3⟩ := h
  obtain ⟨g, t, cs, fuel, p, q, _, _, _, _, h4, rfl⟩ := h1
  exact ⟨q, h4, (List.nodup_append.1 h2).2.1, fun b off hb => h3 b off (by simp [hb])⟩
/-- What the row lists gives the table. -/
theorem tab_of {W : World} (h : laidMetH Tryd.prog laid3 W) : Lib.TabIs Tryd.prog W "internal/strconv.uint64pow10" .u64 Lib.pow10Tab := by
  rw [MakeChecks.laidMetH_plain _ _ _ (by kernel_rfl)] at h
  have h2 := laid_tail (laid_tail h)
  exact Lib.tabIs_of_head (rest := []) (g := 0) (by kernel_rfl) (by kernel_rfl) (t := 111) (e := 79) (n := 20) (by kernel_rfl) (by kernel_rfl) (by kernel_rfl) (by kernel_rfl) h2
theorem door_met (os : Os) (args : Array Value) : laidMetH Tryd.prog laid3 ((World.doorLaid Tryd.prog 400 os).forCall (fun _ _ => 0) ⟨#[], args, []⟩).memory := by
  rw [MakeChecks.laidMetH_plain _ _ _ (by kernel_rfl)]
  exact laidMet_of_run' 8 (by kernel_rfl) (by kernel_rfl)
/-- Where the table lies, memory is what a contract asks. -/
theorem ms_pow {W : World} (h : Lib.TabIs Tryd.prog W "internal/strconv.uint64pow10" .u64 Lib.pow10Tab) : MS NoF (fun m => if m = 90 then some ⟨0, 0, 0⟩ else none) [(90, pow)] W := by
  have hw : ∀ g o, ¬ Wr (fun m => if m = 90 then some ⟨0, 0, 0⟩ else none) [(90, pow)] g o := by
    rintro g o ⟨m, ob, δ, h1, _, h3⟩
    rw [lookup_cons] at h1
    split at h1
    · cases h1; exact h3
    · simp at h1
  have hg : Tryd.prog.globalNamed "internal/strconv.uint64pow10" = some 0 := by kernel_rfl
  unfold Lib.TabIs World.var? at h
  rw [hg] at h
  simp only [Option.bind_some] at h
  obtain ⟨cs, t, fr, hb, hc⟩ : ∃ cs t fr, W.heap[0]? = some (.cells cs t fr) ∧ cs = (Lib.pow10Tab.map fun z => Value.int .u64 z).toArray := by
    split at h
    · rename_i cs t fr hh
      exact ⟨cs, t, fr, hh, by simpa using h⟩
    · cases h
  refine ⟨fun m ob hm => ?_, fun m hm => ?_, fun m m' ob ob' δ δ' g o h1 h2 h3 h4 h5 => absurd ⟨m, ob, δ, h1, h3, h5⟩ (hw g o), fun g o hh => absurd hh (hw g o), fun g o hh => hh.elim⟩
  · rw [lookup_cons] at hm
    split at hm
    · rename_i e
      cases hm
      refine .tab (δ := ⟨0, 0, 0⟩) (by rw [if_pos e]) hb (by rw [hc]; simp) (fun i v hv => ⟨?_, ?_⟩)
      · rintro (x | x)
        · exact x
        · exact hw _ _ x
      · simp only [World.cell?, hb, hc]
        simpa using hv
    · simp at hm
  · rw [lookup_cons] at hm
    split at hm
    · cases hm
    · rename_i e; exact if_neg e
theorem stay {W : World} {ρ : Ren} {mem : List (Nat × Ob)} (h : ∀ g o, ¬ Wr ρ mem g o) : Stays NoF W (fun g o => NoF g o ∨ Wr ρ mem g o) W := fun g o u _ y => ⟨fun z => z.elim (fun z => z) (h g o), y⟩
namespace printTells
theorem agg_of {r : List D} {cs : Array Value} {W : World} (h : RepL W r cs.toList) {F : Am.Loc} {ρ : Ren} (hs : Stays NoF W F W) : RepA F ρ W (.agg (r.map C.d)) (.agg cs) := by
  refine .agg (by simpa using h.1) (fun i x hx => ?_)
  simp only [List.getElem?_map, Option.map_eq_some_iff] at hx
  obtain ⟨d, hd, rfl⟩ := hx
  obtain ⟨v, hv, hv2⟩ := h.2 i d hd
  have : cs.getD i undef = v := by
    rw [Array.getD_eq_getD_getElem?]
    simp only [Array.getElem?_toList] at hv
    rw [hv]; rfl
  rw [this]; exact .d (hv2.stays hs)
theorem walk {W : World} (ht : Lib.TabIs Tryd.prog W "internal/strconv.uint64pow10" .u64 Lib.pow10Tab) {e : Ex} {q : Qy} {op : Int} {c0 c1 : Array Value} {r : List D} (he : WfT e) (hq : WfQ q) (h0 : RepL W e.row c0.toList) (h1 : RepL W r c1.toList) (hr : qyC q = r.map C.d) :
    Calls Tryd.prog 4 #[.agg c0, .agg c1, .int .i64 op] W fun e W' => e = .returned (.bool true) ∧ Below W.heap.size W W' := by
  have hms := ms_pow ht
  have hw : ∀ g o, ¬ Wr (fun m => if m = 90 then some ⟨0, 0, 0⟩ else none) [(90, pow)] g o := by
    rintro g o ⟨m, ob, δ, h1, _, h3⟩
    rw [lookup_cons] at h1
    split at h1
    · cases h1; exact h3
    · simp at h1
  refine Calls.mono (tells_p e he q hq op NoF _ W #[.agg c0, .agg c1, .int .i64 op] hms rfl fun i x hx => ?_) fun e W' ⟨v, ρ', h2, _, _, h3, _, h5⟩ => ?_
  · match i, hx with
    | 0, hx =>
      simp at hx; subst hx
      have := agg_of h0 (ρ := fun m => if m = 90 then some ⟨0, 0, 0⟩ else none) (stay hw)
      rw [Ex.row_eq] at this
      exact this
    | 1, hx =>
      simp at hx; subst hx
      have := agg_of h1 (ρ := fun m => if m = 90 then some ⟨0, 0, 0⟩ else none) (stay hw)
      rw [← hr] at this
      exact this
    | 2, hx => simp at hx; subst hx; exact .c (.d (.v rfl))
  · subst h2
    refine ⟨by rw [h3.val], ?_⟩
    exact (h5.weaken (L' := fun _ _ => False) (fun g j x => absurd x (hw g j))).below
set_option maxRecDepth 100000 in
theorem lifted (os : Os) (started : os.Started) (H : Type) (enc : TypeId × Value → H) :
    ReturnsInHanded {} Tryd.checked os 4 .any (fun w args => (Rows.printTellsSpec.pre enc Tryd.prog Tryd.f4 [] false w args ∧ laidMetH Tryd.prog laid3 w) ∧ sizedMet enc Tryd.prog Tryd.f4 (OpenSpec.ofChange Rows.printTellsSpec) false w args)
      (Rows.printTellsSpec.post enc Tryd.prog Tryd.f4 false true false false) := by
  refine returnsInHanded_of_change_and (C := Tryd.checked) (X := fun w _ => laidMetH Tryd.prog laid3 w) (fun _ _ _ hh h => h.of_heap hh) own started (by kernel_rfl) Tryd.func4
    (ChangeSpec.witness_shaped (enc := enc) (C := Tryd.checked) (os := os) (X := fun w _ => laidMetH Tryd.prog laid3 w) false (World.doorLaid Tryd.prog 400 os)
      #[.agg #[.int .i64 0, .string ⟨#[]⟩, .string ⟨#[]⟩, .int .i64 0, .int .i64 0, .int .i64 0, .int .i64 0, .string ⟨#[]⟩, .slice none 0 0], .agg #[.slice none 0 0, .slice none 0 0, .int .i64 0, .string ⟨#[]⟩, .string ⟨#[]⟩, .int .i64 0, .int .i64 0, .int .i64 0, .int .i64 0, .string ⟨#[]⟩, .slice none 0 0, .slice none 0 0], .int .i64 0]
      8 rfl (World.shaped_of_RefB (by kernel_rfl) (by kernel_rfl)) (by kernel_rfl) (by kernel_rfl) (by kernel_rfl) (door_met os _)) ?_
  intro W base args ds gs before hval0 hW _ hsz0 hL _
  have hsz : (DataW.weightsEach Tryd.prog (Tryd.f4.params.toList ++ Rows.printTellsSpec.plain.varTypes Tryd.prog) (ds ++ gs)).all (· ≤ reachBytes) = true := hsz0
  have hval : ∀ (j : Nat) t v, Tryd.f4.params[j]? = some t → args[j]? = some v → Value.okWide Tryd.prog W .any base t v := hval0
  have hW' := hW
  obtain ⟨p, q, hA0, hV, rfl, hfz, hnd⟩ := hW
  have hA : DataW.TrodAll enc Tryd.prog W 0 (fun _ => true) true Tryd.f4.params.toList args.toList ds p := hA0
  rw [Tryd.params4] at hA hval hsz
  obtain ⟨v0, vs0, d0, ds0, p0, q0, hargs0, rfl, rfl, h0, r0⟩ := trodAll_cons hA
  obtain ⟨v1, vs1, d1, ds1, p1, q1, rfl, rfl, rfl, h1, r1⟩ := trodAll_cons r0
  obtain ⟨v2, vs2, d2, ds2, p2, q2, rfl, rfl, rfl, h2, r2⟩ := trodAll_cons r1
  obtain ⟨rfl, rfl, rfl⟩ := trodAll_nil r2
  obtain rfl : args = #[v0, v1, v2] := by cases args; simp_all
  obtain ⟨rfl, rfl⟩ := trodVars_none hV
  have o0 := hval 0 27 v0 rfl rfl
  have o1 := hval 1 37 v1 rfl rfl
  unfold Value.okWide at o0 o1
  rw [Tryd.underlying27] at o0
  rw [Tryd.underlying37] at o1
  obtain ⟨c0, rfl, _, _⟩ := o0
  obtain ⟨c1, rfl, _, _⟩ := o1
  obtain ⟨op, rfl, rfl, rfl, wop⟩ := Go.ChangeShapes.open_int Tryd.underlying3 (hval 2 3 v2 rfl rfl) h2
  have s0 : InReach Tryd.prog 27 d0 := reach_each hsz (i := 0) rfl rfl
  have s1 : InReach Tryd.prog 37 d1 := reach_each hsz (i := 1) rfl rfl
  clear hA0 hval0 hsz0 hsz
  have k0 := h0
  have k1 := h1
  obtain ⟨f0, h0⟩ := h0
  obtain ⟨f1, h1⟩ := h1
  obtain ⟨e, we, _, le⟩ := open_ex f0 h0 s0
  obtain ⟨qq, wq, _, r, hr, lq⟩ := open_qy h1 s1
  refine (walk (tab_of hL) (op := op) we wq le lq hr).mono fun e W' ⟨he, bel⟩ => ?_
  subst he
  have g0 := bel.trod (enc := enc) (P := Tryd.prog) (by kernel_rfl) (by kernel_rfl) (of_decide_eq_true (by kernel_rfl)) k0 (fun x hx => DataW.trod_lt _ _ _ _ h0 x hx)
  have g1 := bel.trod (enc := enc) (P := Tryd.prog) (by kernel_rfl) (by kernel_rfl) (of_decide_eq_true (by kernel_rfl)) k1 (fun x hx => DataW.trod_lt _ _ _ _ h1 x hx)
  exact ⟨_, rfl, _, _, _, [], _, [], hW', trodAll_mk1 (shut_bool Tryd.underlying4 _), (trodAll_cons_mk g0 (trodAll_cons_mk g1 (trodAll_cons_mk (shut_int Tryd.underlying3 wop) trodAll_mk0))), rfl, bel.frame _, fun h => by cases h⟩
theorem said : Rows.PrintTellsSaid :=
  OpenClaim.holds_of_wide 4 Tryd.f4 rfl rfl rfl rfl rfl rfl rfl ⟨rfl, rfl, rfl, rfl, rfl⟩ rfl rfl rfl rfl rfl (by kernel_rfl) Tryd.func4 (by kernel_rfl)
    (of_decide_eq_true (by kernel_rfl)) (by unfold Func.isWrapper; first | (rw [if_pos (by decide +kernel)]; kernel_rfl) | (rw [if_neg (by decide +kernel)]; exact ⟨rfl, rfl⟩))
    (fun os started H enc _ => lifted os started H enc)
theorem card : Rows.PrintTellsCardSaid :=
  Claim7.holds_tied_plain_at .later [] [.data, .data, .data] true (true, "5743e3348eacde2b3b082ce73700dbdda8bf308987f97a565c8c9b16efeb1725") false
    said (fun _ h => by cases h) (by kernel_rfl) (fun _ h => by cases h) printTells_row_tie rfl ⟨rfl, rfl⟩ (by kernel_rfl) rfl
    (fun f fn hf hfn => by
      obtain rfl : f = 4 := Option.some.inj ((show Tryd.prog.funcNamed "trommel/trommellaw10.PrintTells" = some 4 by kernel_rfl).symm.trans hf) |>.symm
      obtain rfl : fn = Tryd.f4 := (Option.some.inj (Tryd.func4.symm.trans hfn)).symm
      exact ⟨by kernel_rfl, fun j t ht => by
        rw [Tryd.params4] at ht
        have hm : t ∈ [27, 37, 3] := by simpa using Array.mem_of_getElem? ht
        have hall : ([27, 37, 3].all fun u => !Tryd.prog.wantsStandIn u) = true := by kernel_rfl
        exact (show Tryd.prog.wantsStandIn t = false by simpa using List.all_eq_true.1 hall t hm)⟩)
    (by kernel_rfl)
#print axioms card
end printTells
/-- The card, under a short name, for the claim. -/
theorem printTells_holds : Rows.PrintTellsCardSaid := printTells.card
end Go.Proofs.YtihcfphmikebgaaDoor
