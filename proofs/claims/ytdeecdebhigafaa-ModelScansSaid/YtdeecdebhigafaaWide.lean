/- ROWS OF WIDE ELEMENTS: slices of structs (of one-cell fields) that read as lists; rows of the call's own that grow; of no program. -/
import Derived.Test.YtdeecdebhigafaaBase
import Derived.Laws.Cells
import Derived.Laws.ResultCell
import Derived.Laws.CopyOwn
namespace Go.Proofs.Ytdeecdebhigafaa
open Go Go.RowKit

theorem run_load_list (P : Program) (W : World) (a : Addr) (cs : List Value) (k : Nat) (hk : cs.length = k) (h : ∀ j v, cs[j]? = some v → W.cell? (a.add j) = some v) :
    (loadCellsFrom a 0 k #[]).run P W = .ok cs.toArray W := by
  have := run_loadCells_list (P := P) (w := W) a cs h
  rw [hk] at this
  simpa [loadCells] using this
theorem results_row_tmp {P : Program} {fn : Func} {p u : Tmp} {ty : TypeId} (h : fn.results = #[.cell p ty, .tmp u]) (tmps : Array Value) (w : World) (g : Nat) (t : TypeId) (cs : Array Value) (fr : Nat × Nat) (d : TypeDesc)
    (hp : tmps.getD p undef = .pointer (some ⟨g, 0, none⟩)) (hg : w.heap[g]? = some (.cells cs t fr))
    (hu : P.underlying ty = some d) (hd : (match d with | .struct _ | .array _ _ => true | _ => false) = true) (hi : (P.info? ty).map (·.size) = some cs.size) :
    (results fn tmps).run P w = .ok (.tuple #[.agg cs, tmps.getD u undef]) w := by
  rw [results_cell_tmp h, hp]
  simp [asAddr, run_loadVar_row w g t ty cs fr d hg hu hd hi, Result.andThen]
/-- how an element lies in its cells -/
structure Wide (α : Type) where
  enc : α → List Value
  k : Nat
  len : ∀ x, (enc x).length = k
  one : ∀ x, ∀ u ∈ enc x, u.oneCell' = true
  pos : 0 < k
variable {α : Type} {E : Wide α}
theorem Wide.flatLen (E : Wide α) : ∀ l : List α, (l.flatMap E.enc).length = l.length * E.k
  | [] => by simp
  | x :: l => by
    rw [List.flatMap_cons, List.length_append, E.len, Wide.flatLen E l, List.length_cons, Nat.add_mul, Nat.one_mul, Nat.add_comm]
theorem Wide.flatAt (E : Wide α) : ∀ (l : List α) (i j : Nat) (x : α), l[i]? = some x → j < E.k → (l.flatMap E.enc)[i * E.k + j]? = (E.enc x)[j]?
  | [], i, j, x, h, _ => by simp at h
  | y :: l, 0, j, x, h, hj => by
    simp only [List.getElem?_cons_zero, Option.some.injEq] at h
    subst h
    rw [List.flatMap_cons, Nat.zero_mul, Nat.zero_add, List.getElem?_append_left (by rw [E.len]; exact hj)]
  | y :: l, i + 1, j, x, h, hj => by
    simp only [List.getElem?_cons_succ] at h
    have e : (i + 1) * E.k + j = E.k + (i * E.k + j) := by rw [Nat.add_mul, Nat.one_mul]; omega
    rw [List.flatMap_cons, e, List.getElem?_append_right (by rw [E.len]; omega), E.len, Nat.add_sub_cancel_left]
    exact Wide.flatAt E l i j x h hj
theorem Wide.flatOne (E : Wide α) (l : List α) : ∀ u ∈ l.flatMap E.enc, u.oneCell' = true := fun u hu => by
  obtain ⟨x, _, hx⟩ := List.mem_flatMap.1 hu
  exact E.one x u hx
theorem Wide.jlt (E : Wide α) {x : α} {j : Nat} {u : Value} (h : (E.enc x)[j]? = some u) : j < E.k := by
  rw [← E.len x]; exact (List.getElem?_eq_some_iff.1 h).1

/-- a slice of wide elements reads as a list -/
def Rows (E : Wide α) (w : World) (v : Value) (l : List α) : Prop :=
  l.length ≤ 140737488351232 ∧
  ((l = [] ∧ ∃ a cap, v = .slice a 0 cap) ∨ ∃ b off cap, v = .slice (some ⟨b, off, none⟩) l.length cap ∧ l.length ≤ cap ∧
    ∀ (i : Nat) (x : α), l[i]? = some x → ∀ (j : Nat) (u : Value), (E.enc x)[j]? = some u → w.cell? ⟨b, off + i * E.k + j, none⟩ = some u)
section
variable {w w' : World} {v : Value} {a : Option Addr} {n cap : Nat} {l : List α}
theorem Rows.drewN (h : Rows E w v l) (n : Nat) : Rows E (w.drewN n) v l := h
theorem Rows.drew (h : Rows E w v l) : Rows E w.drew v l := h
theorem Rows.below (h : Rows E w v l) (hb : Below w.heap.size w w') : Rows E w' v l := by
  obtain ⟨h2, h3⟩ := h
  refine ⟨h2, ?_⟩
  rcases h3 with h3 | ⟨b, off, cap, hv, hlc, hc⟩
  · exact .inl h3
  · exact .inr ⟨b, off, cap, hv, hlc, fun i x hx j u hu => (hb.cell (World.block_lt_of_cell? w _ (hc i x hx j u hu))).trans (hc i x hx j u hu)⟩
theorem Rows.alloc (h : Rows E w v l) (o : Obj) : Rows E (w.alloc o) v l := h.below ((Below.refl w.heap.size w).alloc (Nat.le_refl _) o)
theorem Rows.slice (h : Rows E w v l) : ∃ a cap, v = .slice a l.length cap := by
  obtain ⟨_, ⟨rfl, a, cap, rfl⟩ | ⟨b, off, cap, rfl, _, _⟩⟩ := h
  · exact ⟨a, cap, rfl⟩
  · exact ⟨_, cap, rfl⟩
theorem Rows.le (h : Rows E w v l) : l.length ≤ 140737488351232 := h.1
theorem Rows.at_ (h : Rows E w (.slice a n cap) l) (h0 : 0 < l.length) :
    ∃ b off, a = some ⟨b, off, none⟩ ∧ b < w.heap.size ∧ ∀ (i : Nat) (x : α), l[i]? = some x → ∀ (j : Nat) (u : Value), (E.enc x)[j]? = some u → w.cell? ⟨b, off + i * E.k + j, none⟩ = some u := by
  obtain ⟨_, ⟨rfl, _⟩ | ⟨b, off, cap, hv, hlc, hc⟩⟩ := h
  · simp at h0
  · simp only [Value.slice.injEq] at hv
    obtain ⟨rfl, rfl, rfl⟩ := hv
    refine ⟨b, off, rfl, ?_, hc⟩
    have hx : l[0]? = some l[0] := List.getElem?_eq_getElem h0
    have hj : (E.enc l[0])[0]? = some ((E.enc l[0])[0]'(by rw [E.len]; exact E.pos)) := List.getElem?_eq_getElem _
    exact World.block_lt_of_cell? w _ (hc 0 _ hx 0 _ hj)
theorem Rows.len_eq (h : Rows E w (.slice a n cap) l) : n = l.length := by
  obtain ⟨a', c', e⟩ := h.slice
  simp only [Value.slice.injEq] at e; exact e.2.1
theorem Rows.cap_le (h : Rows E w (.slice a n cap) l) : l.length ≤ cap := by
  obtain ⟨_, ⟨rfl, a, cap, hv⟩ | ⟨b, off, cap, hv, hlc, _⟩⟩ := h
  · simp
  · simp only [Value.slice.injEq] at hv
    obtain ⟨rfl, rfl, rfl⟩ := hv
    exact hlc
theorem Rows.nil_ (a : Option Addr) (cap : Nat) : Rows E w (.slice a 0 cap) [] := ⟨by simp, .inl ⟨rfl, a, cap, rfl⟩⟩
theorem Rows.reads (h : Rows E w (.slice a n cap) l) : Reads w w.heap.size E.k a l.length (l.flatMap E.enc) := by
  refine ⟨E.flatLen l, fun hn => ?_⟩
  obtain ⟨b, off, rfl, hb, hc⟩ := h.at_ hn
  refine ⟨_, rfl, hb, fun j u hj => ?_⟩
  have hk := E.pos
  have hlt : j < l.length * E.k := by
    rw [← E.flatLen l]; exact (List.getElem?_eq_some_iff.1 hj).1
  have hi : j / E.k < l.length := by rw [Nat.div_lt_iff_lt_mul hk]; exact hlt
  have hm : j % E.k < E.k := Nat.mod_lt _ hk
  have hx : l[j / E.k]? = some l[j / E.k] := List.getElem?_eq_getElem hi
  have e : j / E.k * E.k + j % E.k = j := by rw [Nat.mul_comm]; exact Nat.div_add_mod j E.k
  have hf := E.flatAt l (j / E.k) (j % E.k) _ hx hm
  rw [e, hj] at hf
  rw [Go.WideShapes.add_plain]
  have := hc (j / E.k) _ hx (j % E.k) u hf.symm
  rwa [Nat.add_assoc, e] at this
/-- 's[1:]' -/
theorem Rows.tail {b off : Nat} {x : α} (h : Rows E w (.slice (some ⟨b, off, none⟩) n cap) (x :: l)) : Rows E w (.slice (some ⟨b, off + E.k, none⟩) l.length (cap - 1)) l := by
  obtain ⟨h2, ⟨h, _⟩ | ⟨b', off', cap', hv, hlc, hc⟩⟩ := h
  · cases h
  · simp only [Value.slice.injEq, Option.some.injEq, Addr.mk.injEq] at hv
    obtain ⟨⟨rfl, rfl, _⟩, rfl, rfl⟩ := hv
    simp only [List.length_cons] at h2 hlc
    refine ⟨by omega, .inr ⟨_, _, _, rfl, by omega, fun i y hy j u hu => ?_⟩⟩
    have := hc (i + 1) y (by rw [List.getElem?_cons_succ]; exact hy) j u hu
    rwa [Nat.add_mul, Nat.one_mul, ← Nat.add_assoc, Nat.add_right_comm off (i * E.k) E.k] at this
/-- the whole of an element, to be loaded -/
theorem Rows.load {P : Program} (h : Rows E w (.slice a n cap) l) {i : Nat} {x : α} (hx : l[i]? = some x) : ∃ b off, a = some ⟨b, off, none⟩ ∧ n = l.length ∧ (loadCellsFrom ⟨b, off + i * E.k, none⟩ 0 E.k #[]).run P w = .ok (E.enc x).toArray w := by
  have hn : 0 < l.length := by have := (List.getElem?_eq_some_iff.1 hx).1; omega
  obtain ⟨b, off, rfl, _, hc⟩ := h.at_ hn
  refine ⟨b, off, rfl, h.len_eq, run_load_list P _ _ _ _ (E.len x) fun j u hu => ?_⟩
  rw [Addr.add_lit]
  exact hc i x hx j u hu
end

/-- a row of the call's own -/
def OwnR (E : Wide α) (e : TypeId) (w : World) (base : Nat) (v : Value) (l : List α) : Prop := w.ownsRow base e E.k v l.length (l.flatMap E.enc)
section
variable {e : TypeId} {w w' : World} {base base' : Nat} {v : Value} {l : List α}
theorem OwnR.nil_ (E : Wide α) (e : TypeId) (w : World) (base : Nat) : OwnR E e w base (.slice none 0 0) [] := ⟨by simp, .inl ⟨rfl, rfl⟩⟩
theorem OwnR.slice (h : OwnR E e w base v l) : ∃ A c, v = .slice A l.length c := by
  obtain ⟨_, ⟨rfl, h0⟩ | ⟨g, cap, cur, rfl, _⟩⟩ := h
  · exact ⟨_, _, by rw [h0]⟩
  · exact ⟨_, _, rfl⟩
theorem OwnR.rows (h : OwnR E e w base v l) (hl : l.length ≤ 140737488351232) : Rows E w v l := by
  refine ⟨hl, ?_⟩
  have h' := h
  obtain ⟨_, ⟨rfl, h0⟩ | ⟨g, cap, cur, rfl, hb, hg, hnc, _, hsz, htk⟩⟩ := h
  · exact .inl ⟨List.eq_nil_of_length_eq_zero h0, _, _, rfl⟩
  · refine .inr ⟨g, 0, cap, rfl, hnc, fun i x hx j u hu => ?_⟩
    have hj := E.jlt hu
    have hf := E.flatAt l i j x hx hj
    rw [hu] at hf
    have := World.ownsRow.cells h' (g := g) rfl _ u hf
    rw [Go.WideShapes.add_plain, Nat.zero_add] at this
    rw [Nat.zero_add]; exact this
theorem OwnR.below (h : OwnR E e w base v l) (hb : Below w.heap.size w w') : OwnR E e w' base v l :=
  World.ownsRow.kept (w' := w') (row := none) h ⟨hb.os, hb.tape, hb.output, hb.size, fun i hi _ => hb.block i hi⟩ (by cases v.ownBlock with | none => exact .inl rfl | some x => exact .inr (by simp))
theorem OwnR.mono (h : OwnR E e w base v l) (hb : base' ≤ base) : OwnR E e w base' v l := by
  obtain ⟨h1, h2⟩ := h
  refine ⟨h1, ?_⟩
  rcases h2 with h2 | ⟨g, cap, cur, hv, hbg, hr⟩
  · exact .inl h2
  · exact .inr ⟨g, cap, cur, hv, Nat.le_trans hb hbg, hr⟩
theorem OwnR.drewN (h : OwnR E e w base v l) (n : Nat) : OwnR E e (w.drewN n) base v l := h
theorem OwnR.alloc (h : OwnR E e w base v l) (o : Obj) : OwnR E e (w.alloc o) base v l := World.ownsRow.alloc h o
/-- the row that 'append(s, x)' builds for its one element -/
theorem rows_new (E : Wide α) (w : World) (t : TypeId) (x : α) : Rows E (w.alloc (.cells (E.enc x).toArray t)) (.slice (some ⟨w.heap.size, 0, none⟩) 1 1) [x] := by
  refine ⟨by simp, .inr ⟨w.heap.size, 0, 1, rfl, by simp, fun i y hy j u hu => ?_⟩⟩
  have hi : i = 0 := by
    have := (List.getElem?_eq_some_iff.1 hy).1
    simp at this; exact this
  subst hi
  simp only [List.getElem?_cons_zero, Option.some.injEq] at hy
  subst hy
  rw [Nat.zero_mul, Nat.add_zero, Nat.zero_add, cell_of_row _ _ _ _ _ _ (heap_alloc_new w _)]
  simpa using hu
end
/-- what a program knows of slices of such elements -/
def RowOfW (P : Program) (t e : TypeId) (E : Wide α) (z : Value) (b : Nat) : Prop :=
  P.underlying t = some (.slice e) ∧ (P.info? e).map (fun i => (i.zero, i.size, i.bytes)) = some (some z, E.k, b) ∧ z.cells.size = E.k
theorem ownR_world {e : TypeId} {w w' : World} {base : Nat} {v : Value} {l : List α} (h : OwnR E e w base v l) (hb : base ≤ w.heap.size) (hg : w.grownBy w' v.ownBlock) : Below base w w' :=
  below_own (Below.refl base w) h hb hg
theorem wpList_growR {P : Program} {w : World} {ops : Array Oper} {rest : List Oper} {o : Oper} {a : Act} {Q : Exit → Act → World → Prop} (hgd : o.guard = none) (s x : Operand) (t : TypeId)
    (ho : o.op = .call { callee := .builtin .append, args := #[s, x], argTypes := #[t, t] })
    {e : TypeId} {z : Value} {b : Nat} (hP : RowOfW P t e E z b) (base : Nat) (v : Value) (xs : List α) (hs : a.eval s = v) (hown : OwnR E e w base v xs)
    (y : Value) (ys : List α) (hx : a.eval x = y) (hr : Rows E w y ys) (N : Nat) (hN : xs.length + ys.length ≤ N) (hNb : N ≤ maxLen ∧ N * b ≤ 140737488355328) (hbase : base ≤ w.heap.size)
    (h : ∀ A c w', OwnR E e w' base (.slice A (xs.length + ys.length) c) (xs ++ ys) → Below base w w' → wpList P ops Q rest (a.put o.dst (.slice A (xs.length + ys.length) c)) w') :
    wpList P ops Q (o :: rest) a w := by
  obtain ⟨hu, hi, hz3⟩ := hP
  obtain ⟨i0, hi0, hz0, hz1, hz2⟩ := info_parts hi
  obtain ⟨ay, cy, rfl⟩ := hr.slice
  refine wpList_append_any w hgd s x t ho base e i0 z E.k b hu hi0 hz0 hz1 hz2 hz3 E.pos v _ _ hs hown w.heap.size ay ys.length cy _ hx hr.reads (E.flatOne ys) (by omega) (Nat.le_trans (Nat.mul_le_mul_right b hN) hNb.2) hbase ?_
  intro v' w' hown' hg _
  obtain ⟨A, c, rfl⟩ := own_slice' hown'
  refine h A c w' ?_ (ownR_world hown hbase hg)
  unfold OwnR
  rw [List.length_append, List.flatMap_append]
  exact hown'
end Go.Proofs.Ytdeecdebhigafaa
