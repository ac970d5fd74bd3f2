/- WORD: what came in as data. -/
import Derived.Test.YtkmkficnkiaajaaDoorOpenArr
import Derived.Test.YtkmkficnkiaajaaDoorRows
import Derived.Test.YtkmkficnkiaajaaDoorWordLow
import Derived.Lib.SmallJoins
namespace Go.Proofs.YtkmkficnkiaajaaDoor
open Go Go.RowKit Go.WideShapes Go.ChangeShapes

theorem open_three {H : Type} {enc : TypeId × Value → H} {W : World} {base : Nat} {v : Value} {d : DataW H} {p : List MemPlace} {spare : Nat → Bool} {held : Bool} {r : Reach} {b0 : Nat}
    (hv : Value.okWide Tryd.prog W r b0 23 v) (h : DataW.Trod enc Tryd.prog W base spare held 23 v d p) : ∃ a b c, v = .agg #[.int .i64 a, .int .i64 b, .int .i64 c] := by
  obtain ⟨zs, rfl, hl, _⟩ := open_arr_ints Tryd.underlying23 Tryd.underlying3 (by kernel_rfl) (by kernel_rfl) hv h
  obtain ⟨a, b, c, rfl⟩ := list3 hl
  exact ⟨a, b, c, rfl⟩
theorem open_bits {H : Type} {enc : TypeId × Value → H} {W : World} {base : Nat} {v : Value} {d : DataW H} {p : List MemPlace} {spare : Nat → Bool} {held : Bool} {r : Reach} {b0 : Nat}
    (hv : Value.okWide Tryd.prog W r b0 37 v) (h : DataW.Trod enc Tryd.prog W base spare held 37 v d p) :
    ∃ n v' lo sz, v = .agg #[.int .u64 n, .int .u64 v', .int .u8 lo, .int .u8 sz] ∧ (Lit.int .u64 n).wf = true ∧ (Lit.int .u64 v').wf = true ∧ (Lit.int .u8 lo).wf = true ∧ (Lit.int .u8 sz).wf = true := by
  obtain ⟨v0, v1, v2, v3, y0, y1, y2, y3, n, rfl, -, -, h0, h1, h2, h3⟩ := Go.Joins.open_agg4 Tryd.underlying37 (by kernel_rfl) (by kernel_rfl) hv h
  obtain ⟨s, e0, _, w0⟩ := DataW.trod_int Tryd.underlying22 h0
  obtain ⟨m, e1, _, w1⟩ := DataW.trod_int Tryd.underlying22 h1
  obtain ⟨g, e2, _, w2⟩ := DataW.trod_int Tryd.underlying5 h2
  obtain ⟨t, e3, _, w3⟩ := DataW.trod_int Tryd.underlying5 h3
  simp at e0 e1 e2 e3
  subst e0 e1 e2 e3
  exact ⟨s, m, g, t, rfl, w0, w1, w2, w3⟩
/-- the table of the card, in the walks' word -/
theorem gTabZ : Tryd.prog.globalNamed "math/bits.deBruijn64tab" = some 2 := by kernel_rfl
theorem gTabZType : (Tryd.prog.globals[2]?).map (·.type) = some 67 := by kernel_rfl
theorem cellsTabZ : Tryd.prog.cellsOf 67 = 64 := by kernel_rfl
theorem cellsU8 : Tryd.prog.cellsOf 5 = 1 := by kernel_rfl
theorem tabZ_of {W : World} {rest : List (String × DataW Unit)} (h : laidMet Tryd.prog (("math/bits.deBruijn64tab", Lib.tabData .u8 (Lib.deBruijn64tab.map fun x : Nat => (x : Int))) :: rest) W) : TabZ W := fun j hj => by
  have h2 := (Lib.tabIs_of_head (k := .u8) gTabZ gTabZType Tryd.underlying67 Tryd.underlying5 cellsU8 cellsTabZ h).cell gTabZ j (by rw [List.length_map]; exact hj)
  rw [h2]
  congr 2
  have hl : j < Lib.deBruijn64tab.length := hj
  simp [List.getD, hl]
end Go.Proofs.YtkmkficnkiaajaaDoor
