/- 'append(s, make([]T, k)...)', IN THE WORDS OF Ints AND Own; a struct's block, later on; stores into a row of the call's own. -/
import Derived.Test.YtkmkficnkiaajaaDoorGrow
import Derived.Lib.AppendZerosOnto
import Derived.Laws.OwnMore
namespace Go.Proofs.YtkmkficnkiaajaaDoor
open Go Go.RowKit

/-- a block that was just laid, later on -/
theorem later_cell {w w' : World} {cs : Array Value} {t : TypeId} (hb : Below (w.alloc (.cells cs t)).heap.size (w.alloc (.cells cs t)) w') (j : Nat) (v : Value) (h : cs[j]? = some v) : w'.cell? ⟨w.heap.size, j, none⟩ = some v := by
  rw [hb.cell (by simp), World.cell?_alloc_mark]; exact h
theorem zeroCells_one (k : IntKind) (n : Nat) : (Builtin.zeroCells (Value.int k 0).cells n).toList = (List.replicate n (0 : Int)).map (Value.int k) := by
  apply List.ext_getElem?
  intro j
  by_cases hj : j < n
  · simp [Builtin.zeroCells, Value.cells, hj, Nat.mod_one]
  · simp [Builtin.zeroCells, Value.cells, hj]
theorem wpList_zeros {P : Program} {w : World} {ops : Array Oper} {rest : List Oper} {o : Oper} {a : Act} {Q : Exit → Act → World → Prop} (hgd : o.guard = none) (s x : Operand) (t tn : TypeId) (k : Nat)
    (ho : o.op = .call { callee := .builtin .append, args := #[s, x], argTypes := #[t, tn] }) {kn : IntKind} (hx : a.eval x = .int .i64 k) (htn : P.underlying tn = some (.int kn))
    {e : TypeId} {kk : IntKind} {b : Nat} (hP : RowOf P t e kk b) (A : Option Addr) (c : Nat) (l : List Int) (hs : a.eval s = .slice A l.length c) (hr : Ints kk w (.slice A l.length c) l) (hl : 0 < l.length)
    (h0 : 0 < k) (hg : c < l.length + k) (hN : l.length + k ≤ maxLen) (hkb : k * b ≤ 281474976710656) (hfit : Builtin.nextslicecap (l.length + k) c * b ≤ 281474976710656)
    (hz : (Lit.int kk 0).wf = true)
    (h : ∀ cap w', Own kk e w' w.heap.size (.slice (some ⟨w.heap.size, 0, none⟩) (l.length + k) cap) (l ++ List.replicate k 0) → Below w.heap.size w w' → wpList P ops Q rest (a.put o.dst (.slice (some ⟨w.heap.size, 0, none⟩) (l.length + k) cap)) w') :
    wpList P ops Q (o :: rest) a w := by
  obtain ⟨hu, hi⟩ := hP
  obtain ⟨i0, hi0, hz0, hz1, hz2⟩ := info_parts hi
  obtain ⟨bl, off, rfl, hc⟩ := hr.cells hl
  have h63 : ((l.length + k : Nat) : Int) ≤ 9223372036854775807 := by simp only [maxLen] at hN; omega
  have hnews : ∀ j u, (l.map (Value.int kk))[j]? = some u → w.drew.cell? ((⟨bl, off, none⟩ : Addr).add j) = some u := by
    intro j u hj
    have hlt : j < l.length := by
      rcases Nat.lt_or_ge j l.length with h' | h'
      · exact h'
      · simp [h'] at hj
    rw [Go.WideShapes.add_plain]
    show w.cell? _ = _
    rw [hc j hlt]
    simp [hlt] at hj ⊢
    exact hj
  have hold := run_firstCells_some (P := P) w.drew i0.size l.length ⟨bl, off, none⟩ l.length c (l.map (Value.int kk)) (by rw [hz1]; simp) hnews
  have hrun := Lib.run_append_grow_zeros (P := P) w t tn o.type e i0 (.int kk 0) .i64 kn hu htn hi0 hz0 (some ⟨bl, off, none⟩) l.length c (l.map (Value.int kk)) hold k h0 (by rw [hz1]; omega) hg h63 (by rw [hz2]; exact hkb) (by rw [hz2]; exact hfit)
  refine Lib.wpList_append_run w hgd s x t tn ho _ _ hs hx _ _ hrun ?_
  have hge := grownCap_ge w (l.length + k) c e
  refine h _ _ ⟨⟨by simp, .inr ⟨w.heap.size, _, _, by simp, Nat.le_refl _, heap_alloc_new w.drew _, by simpa using hge, grownCap_le_maxLen w _ c e hN, ?_, ?_⟩⟩, ?_⟩ ?_
  · simp only [Array.size_append, size_zeroCells, List.size_toArray, List.length_map, Value.cells]
    simp only [List.length_cons, List.length_nil]
    omega
  · rw [Array.toList_append, Array.toList_append, zeroCells_one, List.map_append]
    refine List.take_left' ?_
    simp
  · intro c hc
    rcases List.mem_append.1 hc with hc | hc
    · exact hr.1 c hc
    · rw [(List.mem_replicate.1 hc).2]; exact hz
  · exact (below_drewN (Below.refl w.heap.size w) 1).alloc (Nat.le_refl _) _
/-- a number stored into a row of one's own -/
theorem Own.stored {kk : IntKind} {e : TypeId} {w : World} {base g n cap : Nat} {l : List Int} (h : Own kk e w base (.slice (some ⟨g, 0, none⟩) n cap) l) (hn : n = l.length) (j : Nat) (x : Int) (hx : (Lit.int kk x).wf = true) :
    Own kk e (w.setCell ⟨g, j, none⟩ (.int kk x)) base (.slice (some ⟨g, 0, none⟩) n cap) (l.set j x) := by
  subst hn
  refine ⟨?_, fun c hc => ?_⟩
  · have h1 := (h.1.stored j (.int kk x)).1
    rw [List.length_set, List.map_set]
    exact h1
  · rcases List.mem_or_eq_of_mem_set hc with hc | hc
    · exact h.2 c hc
    · rw [hc]; exact hx
theorem Own.stored_below {kk : IntKind} {e : TypeId} {w0 w : World} {base g n cap : Nat} {l : List Int} (hb : Below base w0 w) (h : Own kk e w base (.slice (some ⟨g, 0, none⟩) n cap) l) (hn : n = l.length) (h0 : 0 < n) (j : Nat) (v : Value) :
    Below base w0 (w.setCell ⟨g, j, none⟩ v) := by
  subst hn
  have hg : base ≤ g := by
    obtain ⟨g', m, f, he, hbg, _⟩ := row_of_own h.1 h0
    simp only [Value.slice.injEq, Option.some.injEq, Addr.mk.injEq, and_true, true_and] at he
    omega
  exact hb.setCell hg v
end Go.Proofs.YtkmkficnkiaajaaDoor
