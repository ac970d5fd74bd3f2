/- APPEND ONTO ROWS OF WIDE ELEMENTS, WITH WHAT ELSE STAYS AS IT IS; of no program. -/
import Derived.Test.YtdeecdebhigafaaWide
import Derived.Deep.RegionLaw
namespace Go.Proofs.Ytdeecdebhigafaa
open Go Go.RowKit

theorem Rows.grown {α : Type} {E : Wide α} {w w' : World} {a : Option Addr} {n cap : Nat} {l : List α} {row : Option Nat} (h : Rows E w (.slice a n cap) l) (hg : w.grownBy w' row) (hne : ∀ ad, a = some ad → some ad.block ≠ row) : Rows E w' (.slice a n cap) l := by
  obtain ⟨h2, h3⟩ := h
  refine ⟨h2, ?_⟩
  rcases h3 with h3 | ⟨b, off, cap', hv, hlc, hc⟩
  · exact .inl h3
  · refine .inr ⟨b, off, cap', hv, hlc, fun i x hx j u hu => hg.cell (hc i x hx j u hu) ?_⟩
    simp only [Value.slice.injEq] at hv
    exact (hne ⟨b, off, none⟩ hv.1 : some b ≠ row)
theorem OwnR.lt {α : Type} {E : Wide α} {e : TypeId} {w : World} {base : Nat} {a : Option Addr} {n cap : Nat} {l : List α} (h : OwnR E e w base (.slice a n cap) l) : ∀ ad, a = some ad → base ≤ ad.block ∧ ad.block < w.heap.size := fun ad e' => by
  subst e'
  exact World.ownsRow.lt h _ rfl
/-- rows of unlike types lie apart -/
theorem OwnR.apart {α β : Type} {E : Wide α} {E' : Wide β} {e e' : TypeId} {w : World} {b b' : Nat} {v v' : Value} {l : List α} {l' : List β} (h : OwnR E e w b v l) (h' : OwnR E' e' w b' v' l') (hne : e ≠ e') : v.ownBlock = none ∨ v.ownBlock ≠ v'.ownBlock := by
  obtain ⟨_, ⟨rfl, _⟩ | ⟨g, cap, cur, rfl, _, hg, _⟩⟩ := h
  · exact .inl rfl
  · refine .inr fun hh => ?_
    obtain ⟨_, ⟨rfl, _⟩ | ⟨g', cap', cur', rfl, _, hg', _⟩⟩ := h'
    · cases hh
    · have hgg : g = g' := Option.some.inj hh
      subst hgg
      rw [hg] at hg'
      simp only [Option.some.injEq, Obj.cells.injEq] at hg'
      exact hne hg'.2.1
theorem OwnR.grown {α β : Type} {E : Wide α} {E' : Wide β} {e e' : TypeId} {w w' : World} {b b' : Nat} {v v' : Value} {l : List α} {l' : List β} (h : OwnR E e w b v l) (h' : OwnR E' e' w b' v' l') (hne : e ≠ e') (hg : w.grownBy w' v'.ownBlock) : OwnR E e w' b v l :=
  World.ownsRow.kept h hg (h.apart h' hne)
/-- what was made behind a row stays while that row grows -/
theorem OwnR.cell_kept {α : Type} {E : Wide α} {e : TypeId} {w w' w'' : World} {B : Nat} {v : Value} {l : List α} {a : Addr} {u : Value} (h : OwnR E e w B v l) (hg : w'.grownBy w'' v.ownBlock) (hb : w.heap.size ≤ a.block) (hc : w'.cell? a = some u) : w''.cell? a = some u :=
  hg.cell hc fun hh => by
    have := (World.ownsRow.lt h _ hh.symm).2
    omega
theorem wpList_growRg {α : Type} {E : Wide α} {P : Program} {w : World} {ops : Array Oper} {rest : List Oper} {o : Oper} {a : Act} {Q : Exit → Act → World → Prop} (hgd : o.guard = none) (s x : Operand) (t : TypeId)
    (ho : o.op = .call { callee := .builtin .append, args := #[s, x], argTypes := #[t, t] })
    {e : TypeId} {z : Value} {b : Nat} (hP : RowOfW P t e E z b) (base : Nat) (v : Value) (xs : List α) (hs : a.eval s = v) (hown : OwnR E e w base v xs)
    (y : Value) (ys : List α) (hx : a.eval x = y) (hr : Rows E w y ys) (N : Nat) (hN : xs.length + ys.length ≤ N) (hNb : N ≤ maxLen ∧ N * b ≤ 140737488355328) (hbase : base ≤ w.heap.size)
    (h : ∀ A c w', OwnR E e w' base (.slice A (xs.length + ys.length) c) (xs ++ ys) → Below base w w' → w.grownBy w' v.ownBlock → wpList P ops Q rest (a.put o.dst (.slice A (xs.length + ys.length) c)) w') :
    wpList P ops Q (o :: rest) a w := by
  obtain ⟨hu, hi, hz3⟩ := hP
  obtain ⟨i0, hi0, hz0, hz1, hz2⟩ := info_parts hi
  obtain ⟨ay, cy, rfl⟩ := hr.slice
  refine wpList_append_any w hgd s x t ho base e i0 z E.k b hu hi0 hz0 hz1 hz2 hz3 E.pos v _ _ hs hown w.heap.size ay ys.length cy _ hx hr.reads (E.flatOne ys) (by omega) (Nat.le_trans (Nat.mul_le_mul_right b hN) hNb.2) hbase ?_
  intro v' w' hown' hg _
  obtain ⟨A, c, rfl⟩ := own_slice' hown'
  refine h A c w' ?_ (ownR_world hown hbase hg) hg
  unfold OwnR
  rw [List.length_append, List.flatMap_append]
  exact hown'
theorem step_growRg {α : Type} {E : Wide α} {P : Program} {w : World} {ops : Array Oper} {o : Oper} {a : Act} {K : Act → World → Prop} {Q : Exit → Act → World → Prop} {X : Prop} (hgd : o.guard = none) (s x : Operand) (t : TypeId)
    (ho : o.op = .call { callee := .builtin .append, args := #[s, x], argTypes := #[t, t] })
    {e : TypeId} {z : Value} {b : Nat} (hP : RowOfW P t e E z b) (base : Nat) (v : Value) (xs : List α) (hs : a.eval s = v) (hown : OwnR E e w base v xs)
    (y : Value) (ys : List α) (hx : a.eval x = y) (hr : Rows E w y ys) (N : Nat) (hN : xs.length + ys.length ≤ N) (hNb : N ≤ maxLen ∧ N * b ≤ 140737488355328) (hbase : base ≤ w.heap.size)
    (h : ∀ A c w', OwnR E e w' base (.slice A (xs.length + ys.length) c) (xs ++ ys) → Below base w w' → w.grownBy w' v.ownBlock → K (a.put o.dst (.slice A (xs.length + ys.length) c)) w') :
    if Region.wanted o (yielded ops a.tmps) = true then Oper.wp P o a w K Q else X := by
  obtain ⟨hu, hi, hz3⟩ := hP
  obtain ⟨i0, hi0, hz0, hz1, hz2⟩ := info_parts hi
  obtain ⟨ay, cy, rfl⟩ := hr.slice
  refine step_append_any w hgd s x t ho base e i0 z E.k b hu hi0 hz0 hz1 hz2 hz3 E.pos v _ _ hs hown w.heap.size ay ys.length cy _ hx hr.reads (E.flatOne ys) (by omega) (Nat.le_trans (Nat.mul_le_mul_right b hN) hNb.2) hbase ?_
  intro v' w' hown' hg _
  obtain ⟨A, c, rfl⟩ := own_slice' hown'
  refine h A c w' ?_ (ownR_world hown hbase hg) hg
  unfold OwnR
  rw [List.length_append, List.flatMap_append]
  exact hown'
end Go.Proofs.Ytdeecdebhigafaa
