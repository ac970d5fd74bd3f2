/- APPEND, IN THE WORDS OF Ints AND Own. -/
import Derived.Test.YtkmkficnkiaajaaDoorBase
namespace Go.Proofs.YtkmkficnkiaajaaDoor
open Go Go.RowKit

/-- what a program knows of slices of whole numbers -/
def RowOf (P : Program) (t e : TypeId) (k : IntKind) (b : Nat) : Prop :=
  P.underlying t = some (.slice e) ∧ (P.info? e).map (fun i => (i.zero, i.size, i.bytes)) = some (some (.int k 0), 1, b)
theorem own_world {k : IntKind} {e : TypeId} {w : World} {base : Nat} {v : Value} {l : List Int} {w' : World} (h : Own k e w base v l) (hb : base ≤ w.heap.size) (hg : w.grownBy w' v.ownBlock) : Below base w w' :=
  below_own (Below.refl base w) h.1 hb hg
theorem wpList_grow {P : Program} {w : World} {ops : Array Oper} {rest : List Oper} {o : Oper} {a : Act} {Q : Exit → Act → World → Prop} (hgd : o.guard = none) (s x : Operand) (t : TypeId)
    (ho : o.op = .call { callee := .builtin .append, args := #[s, x], argTypes := #[t, t] })
    {e : TypeId} {k : IntKind} {b : Nat} (hP : RowOf P t e k b) (base : Nat) (v : Value) (xs : List Int) (hs : a.eval s = v) (hown : Own k e w base v xs)
    (y : Value) (ys : List Int) (hx : a.eval x = y) (hr : Ints k w y ys) (N : Nat) (hN : xs.length + ys.length ≤ N) (hNb : N ≤ maxLen ∧ N * b ≤ 140737488355328) (hbase : base ≤ w.heap.size)
    (h : ∀ A c w', Own k e w' base (.slice A (xs.length + ys.length) c) (xs ++ ys) → Below base w w' → wpList P ops Q rest (a.put o.dst (.slice A (xs.length + ys.length) c)) w') :
    wpList P ops Q (o :: rest) a w := by
  obtain ⟨hu, hi⟩ := hP
  obtain ⟨i0, hi0, hz0, hz1, hz2⟩ := info_parts hi
  obtain ⟨ay, cy, rfl⟩ := hr.slice
  refine wpList_append_any w hgd s x t ho base e i0 _ 1 b hu hi0 hz0 hz1 hz2 rfl (by omega) v _ _ hs hown.1 w.heap.size ay ys.length cy _ hx hr.reads (one_cells _ _) (by omega) (Nat.le_trans (Nat.mul_le_mul_right b hN) hNb.2) hbase ?_
  intro v' w' hown' hg _
  obtain ⟨A, c, rfl⟩ := own_slice' hown'
  refine h A c w' ⟨by rw [List.length_append, List.map_append]; exact hown', fun c hc => ?_⟩ (own_world hown hbase hg)
  rcases List.mem_append.1 hc with hc | hc
  · exact hown.2 c hc
  · exact hr.1 c hc
theorem step_grow {P : Program} {w : World} {ops : Array Oper} {o : Oper} {a : Act} {K : Act → World → Prop} {Q : Exit → Act → World → Prop} {E : Prop} (hgd : o.guard = none) (s x : Operand) (t : TypeId)
    (ho : o.op = .call { callee := .builtin .append, args := #[s, x], argTypes := #[t, t] })
    {e : TypeId} {k : IntKind} {b : Nat} (hP : RowOf P t e k b) (base : Nat) (v : Value) (xs : List Int) (hs : a.eval s = v) (hown : Own k e w base v xs)
    (y : Value) (ys : List Int) (hx : a.eval x = y) (hr : Ints k w y ys) (N : Nat) (hN : xs.length + ys.length ≤ N) (hNb : N ≤ maxLen ∧ N * b ≤ 140737488355328) (hbase : base ≤ w.heap.size)
    (h : ∀ A c w', Own k e w' base (.slice A (xs.length + ys.length) c) (xs ++ ys) → Below base w w' → K (a.put o.dst (.slice A (xs.length + ys.length) c)) w') :
    if Region.wanted o (yielded ops a.tmps) = true then Oper.wp P o a w K Q else E := by
  obtain ⟨hu, hi⟩ := hP
  obtain ⟨i0, hi0, hz0, hz1, hz2⟩ := info_parts hi
  obtain ⟨ay, cy, rfl⟩ := hr.slice
  refine step_append_any w hgd s x t ho base e i0 _ 1 b hu hi0 hz0 hz1 hz2 rfl (by omega) v _ _ hs hown.1 w.heap.size ay ys.length cy _ hx hr.reads (one_cells _ _) (by omega) (Nat.le_trans (Nat.mul_le_mul_right b hN) hNb.2) hbase ?_
  intro v' w' hown' hg _
  obtain ⟨A, c, rfl⟩ := own_slice' hown'
  refine h A c w' ⟨by rw [List.length_append, List.map_append]; exact hown', fun c hc => ?_⟩ (own_world hown hbase hg)
  rcases List.mem_append.1 hc with hc | hc
  · exact hown.2 c hc
  · exact hr.1 c hc
end Go.Proofs.YtkmkficnkiaajaaDoor
