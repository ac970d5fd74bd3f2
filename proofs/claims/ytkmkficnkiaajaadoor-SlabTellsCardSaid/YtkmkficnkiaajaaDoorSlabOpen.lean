/- SLAB: what came in as data, and the card's tables. -/
import Derived.Test.YtkmkficnkiaajaaDoorWordOpen
import Derived.Test.YtkmkficnkiaajaaDoorSlabFns
namespace Go.Proofs.YtkmkficnkiaajaaDoor
open Go Go.RowKit Go.WideShapes Go.ChangeShapes

theorem open_two {H : Type} {enc : TypeId × Value → H} {W : World} {base : Nat} {v : Value} {d : DataW H} {p : List MemPlace} {spare : Nat → Bool} {held : Bool} {r : Reach} {b0 : Nat} (hv : Value.okWide Tryd.prog W r b0 53 v) (h : DataW.Trod enc Tryd.prog W base spare held 53 v d p) : ∃ n c a b, v = .agg #[.int .u64 n, .int .i64 c, .int .i64 a, .int .i64 b] ∧ (Lit.int .u64 n).wf = true ∧ (Lit.int .i64 c).wf = true ∧ (Lit.int .i64 a).wf = true ∧ (Lit.int .i64 b).wf = true := by
  obtain ⟨v0, v1, v2, v3, y0, y1, y2, y3, n, rfl, -, -, h0, h1, h2, h3⟩ := Go.Joins.open_agg4 Tryd.underlying53 (by kernel_rfl) (by kernel_rfl) hv h
  obtain ⟨s, e0, _, w0⟩ := DataW.trod_int Tryd.underlying22 h0
  obtain ⟨m, e1, _, w1⟩ := DataW.trod_int Tryd.underlying3 h1
  obtain ⟨g, e2, _, w2⟩ := DataW.trod_int Tryd.underlying3 h2
  obtain ⟨t, e3, _, w3⟩ := DataW.trod_int Tryd.underlying3 h3
  simp at e0 e1 e2 e3
  subst e0 e1 e2 e3
  exact ⟨s, m, g, t, rfl, w0, w1, w2, w3⟩
theorem gTabB : Tryd.prog.globalNamed "stillroom/slab.blocks" = some 0 := by kernel_rfl
theorem gTabBType : (Tryd.prog.globals[0]?).map (·.type) = some 23 := by kernel_rfl
theorem cellsTabB : Tryd.prog.cellsOf 23 = 3 := by kernel_rfl
theorem cellsInt : Tryd.prog.cellsOf 3 = 1 := by kernel_rfl
theorem laidMet_tail {P : Program} {x : String × DataW Unit} {rest : List (String × DataW Unit)} {W : World} (h : laidMet P (x :: rest) W) : laidMet P rest W := by
  obtain ⟨ps, hl, hn, hc⟩ := h
  obtain ⟨n, d⟩ := x
  obtain ⟨g, t, cs, fuel, p, q, _, _, _, _, hq, rfl⟩ := hl
  exact ⟨q, hq, (List.nodup_append.1 hn).2.1, fun b off hb => hc b off (List.mem_append.2 (.inr hb))⟩
theorem tabB_of' {W : World} {rest : List (String × DataW Unit)} (h : laidMet Tryd.prog (("stillroom/slab.blocks", Lib.tabData .i64 [0, 16, 4]) :: rest) W) : TabB W := by
  have h2 := (Lib.tabIs_of_head (k := .i64) gTabB gTabBType Tryd.underlying23 Tryd.underlying3 cellsInt cellsTabB h).cell gTabB
  exact ⟨h2 1 (by decide), h2 2 (by decide)⟩
theorem tabB_of {W : World} {x : String × DataW Unit} {rest : List (String × DataW Unit)} (h : laidMet Tryd.prog (x :: ("stillroom/slab.blocks", Lib.tabData .i64 [0, 16, 4]) :: rest) W) : TabB W := tabB_of' (laidMet_tail h)
theorem gTabL : Tryd.prog.globalNamed "stillroom/slab.lines" = some 1 := by kernel_rfl
theorem gTabLType : (Tryd.prog.globals[1]?).map (·.type) = some 23 := by kernel_rfl
theorem tabL_of {W : World} {x y : String × DataW Unit} {rest : List (String × DataW Unit)} (h : laidMet Tryd.prog (x :: y :: ("stillroom/slab.lines", Lib.tabData .i64 [0, 1, 4]) :: rest) W) : TabL W := by
  have h2 := (Lib.tabIs_of_head (k := .i64) gTabL gTabLType Tryd.underlying23 Tryd.underlying3 cellsInt cellsTabB (laidMet_tail (laidMet_tail h))).cell gTabL
  exact ⟨h2 1 (by decide), h2 2 (by decide)⟩
end Go.Proofs.YtkmkficnkiaajaaDoor
