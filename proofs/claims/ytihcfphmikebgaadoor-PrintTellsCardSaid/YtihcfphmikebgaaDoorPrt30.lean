import Derived.Test.YtihcfphmikebgaaDoorPrt29
import Derived.Test.YtihcfphmikebgaaDoorAm21
import Derived.OpenShut
namespace Go.Par
open Go Go.Am Go.Proofs Go.RowKit
set_option linter.unusedVariables false
set_option linter.unusedSimpArgs false

/-! The arguments, read -/
section
variable {H : Type} {enc : TypeId × Value → H} {w : World} {fuel : Nat} {cs : List Value} {x : DataW H × List MemPlace}
abbrev Td (enc : TypeId × Value → H) (w : World) (fuel : Nat) (t : TypeId) (cs : List Value) (x : DataW H × List MemPlace) : Prop := DataW.trod enc Tryd.prog w 0 (fun _ => true) true fuel t cs = some x
theorem c3 : Tryd.prog.cellsOf 3 = 1 := by kernel_rfl
theorem c9 : Tryd.prog.cellsOf 9 = 1 := by kernel_rfl
theorem c24 : Tryd.prog.cellsOf 24 = 3 := by kernel_rfl
theorem c25 : Tryd.prog.cellsOf 25 = 1 := by kernel_rfl
theorem c27 : Tryd.prog.cellsOf 27 = 9 := by kernel_rfl
theorem c35 : Tryd.prog.cellsOf 35 = 1 := by kernel_rfl
theorem c37 : Tryd.prog.cellsOf 37 = 12 := by kernel_rfl
theorem c57 : Tryd.prog.cellsOf 57 = 12 := by kernel_rfl
theorem b27 : Tryd.prog.bytesOf 27 = 112 := by kernel_rfl
theorem b57 : Tryd.prog.bytesOf 57 = 152 := by kernel_rfl
theorem wf64 {n : Int} (h : (Lit.int .i64 n).wf = true) : -9223372036854775808 ≤ n ∧ n ≤ 9223372036854775807 := bounds_i64 h
theorem len3 {cs : List Value} (h : cs.length = 3) : ∃ a0 a1 a2, cs = [a0, a1, a2] := by
  match cs, h with
  | [a0, a1, a2], _ => exact ⟨a0, a1, a2, rfl⟩
theorem len9 {cs : List Value} (h : cs.length = 9) : ∃ a0 a1 a2 a3 a4 a5 a6 a7 a8, cs = [a0, a1, a2, a3, a4, a5, a6, a7, a8] := by
  match cs, h with
  | [a0, a1, a2, a3, a4, a5, a6, a7, a8], _ => exact ⟨a0, a1, a2, a3, a4, a5, a6, a7, a8, rfl⟩
theorem len12 {cs : List Value} (h : cs.length = 12) : ∃ a0 a1 a2 a3 a4 a5 a6 a7 a8 a9 a10 a11, cs = [a0, a1, a2, a3, a4, a5, a6, a7, a8, a9, a10, a11] := by
  match cs, h with
  | [a0, a1, a2, a3, a4, a5, a6, a7, a8, a9, a10, a11], _ => exact ⟨a0, a1, a2, a3, a4, a5, a6, a7, a8, a9, a10, a11, rfl⟩
theorem open_val (h : Td enc w fuel 24 cs x) (hw : InReach Tryd.prog 24 x.1) : ∃ v : Val, cs = [.int .i64 v.kind, .int .i64 v.i, .string v.s] ∧ -9223372036854775808 ≤ v.i ∧ v.i ≤ 9223372036854775807 ∧ v.s.size ≤ 140737488351232 := by
  obtain ⟨n, _, hl, hf⟩ := open_struct Tryd.underlying24 h hw
  rw [c24] at hl
  obtain ⟨a, b, c, rfl⟩ := len3 hl
  · skip
    obtain ⟨y0, e0, r0⟩ : ∃ y, Td enc w n 3 (([a, b, c].drop 0).take (Tryd.prog.cellsOf 3)) y ∧ InReach Tryd.prog 3 y.1 := hf 0 _ rfl
    obtain ⟨y1, e1, r1⟩ : ∃ y, Td enc w n 3 (([a, b, c].drop 1).take (Tryd.prog.cellsOf 3)) y ∧ InReach Tryd.prog 3 y.1 := hf 1 _ rfl
    obtain ⟨y2, e2, r2⟩ : ∃ y, Td enc w n 9 (([a, b, c].drop 2).take (Tryd.prog.cellsOf 9)) y ∧ InReach Tryd.prog 9 y.1 := hf 2 _ rfl
    simp only [c3, c9, dpz, dps, tks, tkz] at e0 e1 e2
    obtain ⟨k, k1, _⟩ := open_int Tryd.underlying3 e0
    obtain ⟨i, i1, i2⟩ := open_int Tryd.underlying3 e1
    obtain ⟨s, s1, s2⟩ := open_str Tryd.underlying9 e2 r2
    simp only [List.cons.injEq, and_true] at k1 i1 s1
    subst k1; subst i1; subst s1
    exact ⟨⟨k, i, s⟩, rfl, (wf64 i2).1, (wf64 i2).2, s2⟩
theorem repL1 {d : D} {v : Value} (h : RepD NoF w d v) : RepL w [d] [v] := ⟨rfl, fun j x hx => by
  match j, hx with
  | 0, hx => simp at hx; subst hx; exact ⟨v, rfl, h⟩⟩
theorem repL_app {r s : List D} {cs ds : List Value} (h : RepL w r cs) (k : RepL w s ds) : RepL w (r ++ s) (cs ++ ds) := ⟨by simp [h.1, k.1], fun j x hx => by
  by_cases hj : j < r.length
  · rw [List.getElem?_append_left hj] at hx
    obtain ⟨v, v1, v2⟩ := h.2 j x hx
    exact ⟨v, by rw [List.getElem?_append_left (by rw [← h.1]; exact hj)]; exact v1, v2⟩
  · rw [List.getElem?_append_right (by omega)] at hx
    obtain ⟨v, v1, v2⟩ := k.2 _ x hx
    exact ⟨v, by rw [List.getElem?_append_right (by rw [← h.1]; omega), ← h.1]; exact v1, v2⟩⟩
theorem repL_cons {d : D} {v : Value} {s : List D} {ds : List Value} (h : RepD NoF w d v) (k : RepL w s ds) : RepL w (d :: s) (v :: ds) := repL_app (repL1 h) k
theorem repL_nil : RepL w [] [] := ⟨rfl, fun j x hx => by simp at hx⟩
theorem rows_of : ∀ {rows : List (List D)}, (∀ r ∈ rows, ∃ e, WfT e ∧ r = e.row) → ∃ l : List Ex, rows = Ex.rows l ∧ ∀ e ∈ l, WfT e
  | [], _ => ⟨[], rfl, by simp⟩
  | r :: rows, h => by
    obtain ⟨e, e1, e2⟩ := h r (by simp)
    obtain ⟨l, l1, l2⟩ := rows_of (rows := rows) (fun r hr => h r (by simp [hr]))
    refine ⟨e :: l, by rw [Ex.rows, l1, e2], fun x hx => ?_⟩
    rcases List.mem_cons.1 hx with rfl | hx
    · exact e1
    · exact l2 x hx
theorem open_ex : ∀ (fuel : Nat) {cs : List Value} {x : DataW H × List MemPlace}, Td enc w fuel 27 cs x → InReach Tryd.prog 27 x.1 → ∃ e : Ex, WfT e ∧ cs.length = 9 ∧ RepL w e.row cs := fun fuel => by
  induction fuel using Nat.strongRecOn with
  | _ fuel ih =>
    intro cs x h hw
    obtain ⟨n, hn, hl, hf⟩ := open_struct Tryd.underlying27 h hw
    rw [c27] at hl
    obtain ⟨a0, a1, a2, a3, a4, a5, a6, a7, a8, rfl⟩ := len9 hl
    · skip
      obtain ⟨y0, e0, r0⟩ : ∃ y, Td enc w n 3 (([a0, a1, a2, a3, a4, a5, a6, a7, a8].drop 0).take (Tryd.prog.cellsOf 3)) y ∧ InReach Tryd.prog 3 y.1 := hf 0 _ rfl
      obtain ⟨y1, e1, r1⟩ : ∃ y, Td enc w n 9 (([a0, a1, a2, a3, a4, a5, a6, a7, a8].drop 1).take (Tryd.prog.cellsOf 9)) y ∧ InReach Tryd.prog 9 y.1 := hf 1 _ rfl
      obtain ⟨y2, e2, r2⟩ : ∃ y, Td enc w n 9 (([a0, a1, a2, a3, a4, a5, a6, a7, a8].drop 2).take (Tryd.prog.cellsOf 9)) y ∧ InReach Tryd.prog 9 y.1 := hf 2 _ rfl
      obtain ⟨y3, e3, r3⟩ : ∃ y, Td enc w n 3 (([a0, a1, a2, a3, a4, a5, a6, a7, a8].drop 3).take (Tryd.prog.cellsOf 3)) y ∧ InReach Tryd.prog 3 y.1 := hf 3 _ rfl
      obtain ⟨y4, e4, r4⟩ : ∃ y, Td enc w n 3 (([a0, a1, a2, a3, a4, a5, a6, a7, a8].drop 4).take (Tryd.prog.cellsOf 3)) y ∧ InReach Tryd.prog 3 y.1 := hf 4 _ rfl
      obtain ⟨y5, e5, r5⟩ : ∃ y, Td enc w n 24 (([a0, a1, a2, a3, a4, a5, a6, a7, a8].drop 5).take (Tryd.prog.cellsOf 24)) y ∧ InReach Tryd.prog 24 y.1 := hf 5 _ rfl
      obtain ⟨y6, e6, r6⟩ : ∃ y, Td enc w n 25 (([a0, a1, a2, a3, a4, a5, a6, a7, a8].drop 8).take (Tryd.prog.cellsOf 25)) y ∧ InReach Tryd.prog 25 y.1 := hf 6 _ rfl
      simp only [c3, c9, c24, c25, dpz, dps, tks, tkz] at e0 e1 e2 e3 e4 e5 e6
      obtain ⟨op, p0, _⟩ := open_int Tryd.underlying3 e0
      obtain ⟨tab, p1, q1⟩ := open_str Tryd.underlying9 e1 r1
      obtain ⟨nm, p2, q2⟩ := open_str Tryd.underlying9 e2 r2
      obtain ⟨t, p3, _⟩ := open_int Tryd.underlying3 e3
      obtain ⟨c, p4, _⟩ := open_int Tryd.underlying3 e4
      obtain ⟨v, p5, q5, q6, q7⟩ := open_val e5 r5
      obtain ⟨sv, rows, p6, hr, hb, hs⟩ := open_sl (R := fun r => ∃ e, WfT e ∧ r = e.row) Tryd.underlying25 c27 (by decide) e6 r6 (fun m hm cs' y hy hy2 => by
        obtain ⟨e, g1, g2, g3⟩ := ih m (by omega) hy hy2
        exact ⟨e.row, ⟨e, g1, rfl⟩, g2, g3⟩)
      obtain ⟨l, l1, l2⟩ := rows_of hr
      simp only [List.cons.injEq, and_true] at p0 p1 p2 p3 p4 p5 p6
      obtain ⟨p5, p5', p5''⟩ := p5
      subst p0; subst p1; subst p2; subst p3; subst p4; subst p5; subst p5'; subst p5''; subst p6; subst l1
      rw [rows_length, b27] at hb
      refine ⟨.mk op tab nm t c v l, .mk ⟨Nat.le_trans q1 (by decide), Nat.le_trans q2 (by decide), Nat.le_trans q7 (by decide), q5, q6, ?_⟩ l2, rfl, ?_⟩
      · show l.length ≤ _; omega
      · exact repL_cons (.v rfl) (repL_cons (.v rfl) (repL_cons (.v rfl) (repL_cons (.v rfl) (repL_cons (.v rfl) (repL_cons (.v rfl) (repL_cons (.v rfl) (repL_cons (.v rfl) (repL_cons hs repL_nil))))))))
theorem open_exs {fuel : Nat} {cs : List Value} {x : DataW H × List MemPlace} (h : Td enc w fuel 25 cs x) (hw : InReach Tryd.prog 25 x.1) : ∃ v l, cs = [v] ∧ (∀ e ∈ l, WfT e) ∧ l.length ≤ 1000000000000000 ∧ RepD NoF w (.sl false (Ex.rows l)) v := by
  obtain ⟨v, rows, p6, hr, hb, hs⟩ := open_sl (R := fun r => ∃ e, WfT e ∧ r = e.row) Tryd.underlying25 c27 (by decide) h hw (fun m hm cs' y hy hy2 => by
    obtain ⟨e, g1, g2, g3⟩ := open_ex m hy hy2
    exact ⟨e.row, ⟨e, g1, rfl⟩, g2, g3⟩)
  obtain ⟨l, l1, l2⟩ := rows_of hr
  subst l1
  rw [rows_length, b27] at hb
  exact ⟨v, l, p6, l2, by omega, hs⟩
abbrev WfF (f : Fr) : Prop := WfT f.on ∧ f.table.size ≤ 1000000000000000 ∧ f.as_.size ≤ 1000000000000000
theorem open_fr {fuel : Nat} {cs : List Value} {x : DataW H × List MemPlace} (h : Td enc w fuel 57 cs x) (hw : InReach Tryd.prog 57 x.1) : ∃ f : Fr, WfF f ∧ cs.length = 12 ∧ RepL w f.row cs := by
  obtain ⟨n, hn, hl, hf⟩ := open_struct Tryd.underlying57 h hw
  rw [c57] at hl
  obtain ⟨a0, a1, a2, a3, a4, a5, a6, a7, a8, a9, a10, a11, rfl⟩ := len12 hl
  · skip
    obtain ⟨y0, e0, r0⟩ : ∃ y, Td enc w n 3 (([a0, a1, a2, a3, a4, a5, a6, a7, a8, a9, a10, a11].drop 0).take (Tryd.prog.cellsOf 3)) y ∧ InReach Tryd.prog 3 y.1 := hf 0 _ rfl
    obtain ⟨y1, e1, r1⟩ : ∃ y, Td enc w n 9 (([a0, a1, a2, a3, a4, a5, a6, a7, a8, a9, a10, a11].drop 1).take (Tryd.prog.cellsOf 9)) y ∧ InReach Tryd.prog 9 y.1 := hf 1 _ rfl
    obtain ⟨y2, e2, r2⟩ : ∃ y, Td enc w n 9 (([a0, a1, a2, a3, a4, a5, a6, a7, a8, a9, a10, a11].drop 2).take (Tryd.prog.cellsOf 9)) y ∧ InReach Tryd.prog 9 y.1 := hf 2 _ rfl
    obtain ⟨y3, e3, r3⟩ : ∃ y, Td enc w n 27 (([a0, a1, a2, a3, a4, a5, a6, a7, a8, a9, a10, a11].drop 3).take (Tryd.prog.cellsOf 27)) y ∧ InReach Tryd.prog 27 y.1 := hf 3 _ rfl
    simp only [c3, c9, c27, dpz, dps, tks, tkz] at e0 e1 e2 e3
    obtain ⟨j, p0, _⟩ := open_int Tryd.underlying3 e0
    obtain ⟨tab, p1, q1⟩ := open_str Tryd.underlying9 e1 r1
    obtain ⟨as_, p2, q2⟩ := open_str Tryd.underlying9 e2 r2
    obtain ⟨e, g1, g2, g3⟩ := open_ex n e3 r3
    simp only [List.cons.injEq, and_true] at p0 p1 p2
    subst p0; subst p1; subst p2
    refine ⟨⟨j, tab, as_, e⟩, ⟨g1, Nat.le_trans q1 (by decide), Nat.le_trans q2 (by decide)⟩, rfl, ?_⟩
    rw [Ex.row_eq] at g3
    exact repL_cons (.v rfl) (repL_cons (.v rfl) (repL_cons (.v rfl) g3))
theorem frs_of : ∀ {rows : List (List D)}, (∀ r ∈ rows, ∃ f : Fr, WfF f ∧ r = f.row) → ∃ l : List Fr, rows = frRows l ∧ ∀ f ∈ l, WfF f
  | [], _ => ⟨[], rfl, by simp⟩
  | r :: rows, h => by
    obtain ⟨e, e1, e2⟩ := h r (by simp)
    obtain ⟨l, l1, l2⟩ := frs_of (rows := rows) (fun r hr => h r (by simp [hr]))
    refine ⟨e :: l, by rw [l1, e2]; rfl, fun x hx => ?_⟩
    rcases List.mem_cons.1 hx with rfl | hx
    · exact e1
    · exact l2 x hx
theorem open_qy {fuel : Nat} {cs : List Value} {x : DataW H × List MemPlace} (h : Td enc w fuel 37 cs x) (hw : InReach Tryd.prog 37 x.1) : ∃ q : Qy, WfQ q ∧ cs.length = 12 ∧ ∃ r : List D, qyC q = r.map C.d ∧ RepL w r cs := by
  obtain ⟨n, hn, hl, hf⟩ := open_struct Tryd.underlying37 h hw
  rw [c37] at hl
  obtain ⟨a0, a1, a2, a3, a4, a5, a6, a7, a8, a9, a10, a11, rfl⟩ := len12 hl
  · skip
    obtain ⟨y0, e0, r0⟩ : ∃ y, Td enc w n 25 (([a0, a1, a2, a3, a4, a5, a6, a7, a8, a9, a10, a11].drop 0).take (Tryd.prog.cellsOf 25)) y ∧ InReach Tryd.prog 25 y.1 := hf 0 _ rfl
    obtain ⟨y1, e1, r1⟩ : ∃ y, Td enc w n 35 (([a0, a1, a2, a3, a4, a5, a6, a7, a8, a9, a10, a11].drop 1).take (Tryd.prog.cellsOf 35)) y ∧ InReach Tryd.prog 35 y.1 := hf 1 _ rfl
    obtain ⟨y2, e2, r2⟩ : ∃ y, Td enc w n 27 (([a0, a1, a2, a3, a4, a5, a6, a7, a8, a9, a10, a11].drop 2).take (Tryd.prog.cellsOf 27)) y ∧ InReach Tryd.prog 27 y.1 := hf 2 _ rfl
    obtain ⟨y3, e3, r3⟩ : ∃ y, Td enc w n 25 (([a0, a1, a2, a3, a4, a5, a6, a7, a8, a9, a10, a11].drop 11).take (Tryd.prog.cellsOf 25)) y ∧ InReach Tryd.prog 25 y.1 := hf 3 _ rfl
    simp only [c25, c35, c27, dpz, dps, tks, tkz] at e0 e1 e2 e3
    obtain ⟨v0, l0, p0, q0, s0, g0⟩ := open_exs e0 r0
    obtain ⟨v1, rows, p1, hr, hb, g1⟩ := open_sl (R := fun r => ∃ f : Fr, WfF f ∧ r = f.row) Tryd.underlying35 c57 (by decide) e1 r1 (fun m hm cs' y hy hy2 => by
      obtain ⟨e, g1, g2, g3⟩ := open_fr hy hy2
      exact ⟨e.row, ⟨e, g1, rfl⟩, g2, g3⟩)
    obtain ⟨fl, l1, l2⟩ := frs_of hr
    obtain ⟨e, k1, k2, k3⟩ := open_ex n e2 r2
    obtain ⟨v3, l3, p3, q3, s3, g3⟩ := open_exs e3 r3
    subst l1
    simp only [List.cons.injEq, and_true] at p0 p1 p3
    subst p0; subst p1; subst p3
    rw [List.length_map, b57] at hb
    refine ⟨⟨l0, fl, e, l3⟩, ⟨q0, q3, k1, l2, s0, s3, by show fl.length ≤ _; omega⟩, rfl, .sl false (Ex.rows l0) :: .sl false (frRows fl) :: (e.row ++ [.sl false (Ex.rows l3)]), by rw [Ex.row_eq]; rfl, ?_⟩
    exact repL_cons g0 (repL_cons g1 (repL_app (cs := [a2, a3, a4, a5, a6, a7, a8, a9, a10]) (ds := [a11]) k3 (repL1 g3)))
end

end Go.Par
