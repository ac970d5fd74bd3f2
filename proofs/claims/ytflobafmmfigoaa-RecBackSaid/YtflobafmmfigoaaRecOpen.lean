/- A VERSION THAT CAME IN AS DATA. -/
import Derived.Test.YtflobafmmfigoaaOpen
import Derived.Test.YtflobafmmfigoaaRows
import Derived.Lib.SmallJoins
namespace Go.Proofs.Ytflobafmmfigoaa
open Go Go.RowKit Go.WideShapes Go.ChangeShapes

theorem open_rec {H : Type} {enc : TypeId × Value → H} {W : World} {base : Nat} {v : Value} {d : DataW H} {p : List MemPlace} {spare : Nat → Bool} {held : Bool} {r : Reach} {b0 : Nat}
    (hv : Value.okWide Try.prog W r b0 24 v) (h : DataW.Trod enc Try.prog W base spare held 24 v d p) : ∃ s n g t, v = .agg #[.int .u64 s, .int .u64 n, .bool g, .string t] ∧ W64 s ∧ W64 n := by
  obtain ⟨v0, v1, v2, v3, y0, y1, y2, y3, n, rfl, -, -, h0, h1, h2, h3⟩ := Go.Joins.open_agg4 Try.underlying24 (by kernel_rfl) (by kernel_rfl) hv h
  obtain ⟨s, e0, _, w0⟩ := DataW.trod_int Try.underlying22 h0
  obtain ⟨m, e1, _, w1⟩ := DataW.trod_int Try.underlying22 h1
  obtain ⟨g, e2, _⟩ := DataW.trod_bool Try.underlying4 h2
  obtain ⟨t, e3, _⟩ := DataW.trod_string Try.underlying9 h3
  simp at e0 e1 e2 e3
  subst e0 e1 e2 e3
  exact ⟨s, m, g, t, rfl, bd_u64 w0, bd_u64 w1⟩
end Go.Proofs.Ytflobafmmfigoaa
