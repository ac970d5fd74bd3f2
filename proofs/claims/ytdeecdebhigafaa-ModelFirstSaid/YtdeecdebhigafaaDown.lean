/- THE INDICES OF A ROW, FROM THE LAST ONE DOWN; blocks that stay; of no program. -/
import Derived.Test.YtdeecdebhigafaaGrowR
import Derived.RangeFuncNested
import Derived.RangeFuncBound
import Derived.RangeFuncCalls
import Derived.RangeFuncLeaves
import Derived.RangeFuncBox
import Derived.Shelf.Abstract
import Derived.Shelf.RegionOpen
import Derived.OwnWalkIn
import Derived.TacticsInMore
import Derived.LoopNIn
import Derived.LoopIn
namespace Go.Proofs.Ytdeecdebhigafaa
open Go Go.RowKit Go.Shelf

/-- the indices from n - 1 down to k -/
def dn (n k : Nat) : List (Fin n) := (List.finRange n).reverse.take (n - k)
theorem dn_top (n : Nat) : dn n n = [] := by unfold dn; rw [Nat.sub_self, List.take_zero]
theorem dn_step (n k : Nat) (h : k < n) : dn n k = dn n (k + 1) ++ [⟨k, h⟩] := by
  unfold dn
  have e : n - k = (n - (k + 1)) + 1 := by omega
  rw [e, List.take_add_one]
  congr 1
  have hlt : n - (k + 1) < (List.finRange n).reverse.length := by simp; omega
  rw [List.getElem?_eq_getElem hlt]
  simp only [Option.toList_some, List.cons.injEq, and_true]
  rw [List.getElem_reverse]
  simp only [List.getElem_finRange, List.length_finRange]
  apply Fin.ext
  simp
  omega
theorem dn_length (n k : Nat) : (dn n k).length = n - k := by
  unfold dn; rw [List.length_take, List.length_reverse, List.length_finRange]; omega
theorem dn_mem (n k : Nat) (i : Fin n) : i ∈ dn n k ↔ k ≤ i.1 := by
  rcases Nat.lt_or_ge n k with h | h
  · have : dn n k = [] := by unfold dn; rw [show n - k = 0 by omega, List.take_zero]
    rw [this]; simp; omega
  · induction hd : n - k generalizing k with
    | zero =>
      obtain rfl : k = n := by omega
      rw [dn_top]; simp
    | succ m ih =>
      rw [dn_step n k (by omega), List.mem_append, ih (k + 1) (by omega) (by omega), List.mem_singleton]
      constructor
      · rintro (h1 | h1)
        · omega
        · rw [h1]; exact Nat.le_refl _
      · intro h1
        rcases Nat.eq_or_lt_of_le h1 with h2 | h2
        · exact .inr (Fin.ext h2.symm)
        · exact .inl h2
/-- some blocks stay as they are -/
def KB (S : Nat → Prop) (W W' : World) : Prop := ∀ i, S i → W'.heap[i]? = W.heap[i]?
theorem KB.refl (S : Nat → Prop) (W : World) : KB S W W := fun _ _ => rfl
theorem KB.trans {S : Nat → Prop} {A B C : World} (h : KB S A B) (k : KB S B C) : KB S A C := fun i hi => (k i hi).trans (h i hi)
theorem KB.cell {S : Nat → Prop} {A B : World} (h : KB S A B) {p : Addr} (hp : S p.block) : B.cell? p = A.cell? p := World.cell?_of_block (h _ hp)
theorem kb_b {S : Nat → Prop} {w : World} (hS : ∀ i, S i → i < w.heap.size) (W : World) (l : Nat) (o o' : Obj) (hl : w.heap.size ≤ l) (_ : W.heap[l]? = some o) (_ : o.isCells = false) (_ : o.isWalk = false) : KB S W (W.putObj l o') :=
  fun i hi => World.putObj_heap_other (by have := hS i hi; omega)
theorem KB.of_below {S : Nat → Prop} {B : Nat} {W W' : World} (hS : ∀ i, S i → i < B) (h : Below B W W') : KB S W W' := fun i hi => h.block i (hS i hi)
theorem keepsFrom_below {B : Nat} {W W' : World} (h : Below W.heap.size W W') : KeepsFrom B W W' := ⟨h.size, fun k _ _ hk _ => (h.block k (Array.getElem?_eq_some_iff.1 hk).1).trans hk⟩
/-- a slice of wide elements, in blocks that stay -/
theorem Rows.kb {α : Type} {E : Wide α} {S : Nat → Prop} {w w' : World} {a : Option Addr} {n cap : Nat} {l : List α} (h : Rows E w (.slice a n cap) l) (hk : KB S w w') (hS : 0 < l.length → ∀ ad, a = some ad → S ad.block) : Rows E w' (.slice a n cap) l := by
  obtain ⟨h2, h3⟩ := h
  refine ⟨h2, ?_⟩
  rcases h3 with h3 | ⟨b, off, cap', hv, hlc, hc⟩
  · exact .inl h3
  · refine .inr ⟨b, off, cap', hv, hlc, fun i x hx j u hu => (hk.cell (p := ⟨b, off + i * E.k + j, none⟩) ?_).trans (hc i x hx j u hu)⟩
    simp only [Value.slice.injEq] at hv
    exact hS (by have := (List.getElem?_eq_some_iff.1 hx).1; omega) ⟨b, off, none⟩ hv.1
end Go.Proofs.Ytdeecdebhigafaa
