/- SLICES OF WIDE ELEMENTS THAT CAME IN AS DATA, READ AS LISTS; of no program. -/
import Derived.Test.YtdeecdebhigafaaOpen
import Derived.Test.YtdeecdebhigafaaWide
import Derived.Deep.Slices
import Derived.Deep.Fields
import Derived.ChangeSame
import Derived.Lib.SmallJoins
namespace Go.Proofs.Ytdeecdebhigafaa
open Go Go.RowKit Go.WideShapes Go.ChangeShapes Go.Deep Go.Joins

theorem rows_of_trod {α : Type} {E : Wide α} {Q : α → Prop} {H : Type} {enc : TypeId × Value → H} {P : Program} {W : World} {base : Nat} {spare : Nat → Bool} {held : Bool} {t e fuel : Nat} {a : Option Addr} {len cap : Nat} {x : DataW H × List MemPlace}
    (ht : P.underlying t = some (.slice e)) (hk : P.cellsOf e = E.k) (hby : 1 ≤ P.bytesOf e)
    (hel : ∀ (cs' : List Value) (n : Nat) (y : DataW H × List MemPlace), DataW.trod enc P W base spare held n e cs' = some y → cs'.length = E.k → (∀ z ∈ y.1.weights P e, z ≤ 140737488351232) → ∃ z : α, E.enc z = cs' ∧ Q z)
    (hf : DataW.trod enc P W base spare held fuel t [.slice a len cap] = some x) (hw : ∀ y ∈ x.1.weights P t, y ≤ 140737488351232) : ∃ l : List α, Rows E W (.slice a len cap) l ∧ ∀ z ∈ l, Q z := by
  rcases open_slice ht hf with ⟨hcs, _⟩ | ⟨b, len', cap', m, n, D, Pl, hcs, hb, hl, hm, hmm, hx, hi⟩
  · simp at hcs
    obtain ⟨rfl, rfl, rfl⟩ := hcs
    exact ⟨[], Rows.nil_ _ _, fun z hz => by cases hz⟩
  · simp at hcs
    obtain ⟨rfl, rfl, rfl⟩ := hcs
    have hlm : len ≤ m := by rw [hmm]; split <;> omega
    subst hx
    have hw' : ∀ y ∈ (((List.range len).map D).length * P.bytesOf e) :: DataW.weightsAll P e ((List.range len).map D), y ≤ 140737488351232 := by
      intro y hy
      rcases List.mem_cons.1 hy with rfl | hy
      · have h1 := hw ((((List.range len).map D).length + ((List.range (m - len)).map fun j => D (len + j)).length) * P.bytesOf e) (by simp [DataW.weights, ht])
        rw [Nat.add_mul] at h1
        omega
      · exact hw y (by simp only [DataW.weights, ht]; exact List.mem_cons_of_mem _ (List.mem_append_left _ hy))
    have hlen : len ≤ 140737488351232 := by
      have h1 := hw' _ (List.mem_cons_self)
      simp only [List.length_map, List.length_range] at h1
      exact Nat.le_trans (Nat.le_mul_of_pos_right _ hby) h1
    have hz : ∀ i : Fin len, ∃ z : α, (∀ j u, (E.enc z)[j]? = some u → W.cell? (b.add (i.1 * E.k + j)) = some u) ∧ Q z := by
      intro i
      obtain ⟨cs', hc, ht'⟩ := hi i.1 (by have := i.2; omega)
      rw [hk] at hc
      obtain ⟨_, hcl, hat⟩ := World.cells?_some hc
      obtain ⟨z, hz1, hz2⟩ := hel cs' n _ ht' hcl (fun y hy => hw' y (List.mem_cons_of_mem _ (weightsAll_mem (ds := (List.range len).map D) (j := i.1) (by simp [i.2]) y hy)))
      refine ⟨z, fun j u hu => ?_, hz2⟩
      rw [hz1] at hu
      have hj : j < E.k := by rw [← hcl]; exact (List.getElem?_eq_some_iff.1 hu).1
      rw [← Go.Deep.add_add, hat j hj, hu]
    refine ⟨List.ofFn fun i => Classical.choose (hz i), ⟨by simp; omega, ?_⟩, fun z hzm => ?_⟩
    · rcases Nat.eq_zero_or_pos len with h0 | h0
      · subst h0
        exact .inl ⟨by simp, _, _, rfl⟩
      · have hs := Classical.choose_spec (hz ⟨0, h0⟩)
        have he0 : ∃ u, (E.enc (Classical.choose (hz ⟨0, h0⟩)))[0]? = some u := ⟨_, List.getElem?_eq_getElem (by rw [E.len]; exact E.pos)⟩
        obtain ⟨u, hu⟩ := he0
        have hcell := hs.1 0 u hu
        obtain ⟨bb, off, spot⟩ := b
        have hspot : spot = none := by simpa [Addr.add] using World.cell?_spot hcell
        subst hspot
        refine .inr ⟨bb, off, cap, by simp, by simp; exact hl, fun i y hy j u hu => ?_⟩
        have hil : i < len := by have := (List.getElem?_eq_some_iff.1 hy).1; simpa using this
        rw [List.getElem?_ofFn, dif_pos hil, Option.some.injEq] at hy
        subst hy
        have := (Classical.choose_spec (hz ⟨i, hil⟩)).1 j u hu
        rw [Go.WideShapes.add_plain] at this
        rwa [← Nat.add_assoc] at this
    · obtain ⟨i, rfl⟩ := List.mem_ofFn.1 hzm
      exact (Classical.choose_spec (hz i)).2
theorem open_rows {α : Type} {E : Wide α} {Q : α → Prop} {H : Type} {enc : TypeId × Value → H} {P : Program} {W : World} {base : Nat} {v : Value} {d : DataW H} {p : List MemPlace} {spare : Nat → Bool} {held : Bool} {r : Reach} {b0 : Nat} {t e : Nat}
    (ht : P.underlying t = some (.slice e)) (hk : P.cellsOf e = E.k) (hby : 1 ≤ P.bytesOf e)
    (hel : ∀ (cs' : List Value) (n : Nat) (y : DataW H × List MemPlace), DataW.trod enc P W base spare held n e cs' = some y → cs'.length = E.k → (∀ z ∈ y.1.weights P e, z ≤ 140737488351232) → ∃ z : α, E.enc z = cs' ∧ Q z)
    (hv : Value.okWide P W r b0 t v) (h : DataW.Trod enc P W base spare held t v d p) (hw : ∀ y ∈ d.weights P t, y ≤ 140737488351232) : ∃ l : List α, Rows E W v l ∧ ∀ z ∈ l, Q z := by
  obtain ⟨a, len, cap, rfl⟩ := okWide_slice ht hv
  obtain ⟨fuel, hf⟩ := h
  exact rows_of_trod ht hk hby hel (by simpa [Value.cells] using hf) hw
theorem trod_fields2 {H : Type} {enc : TypeId × Value → H} {P : Program} {w : World} {base : Nat} {spare : Nat → Bool} {held : Bool} {fuel : Nat} {t : TypeId} {f0 f1 : Field} {c0 c1 : Value} {x : DataW H × List MemPlace} (hs : P.underlying t = some (.struct #[f0, f1])) (hone : oneCellFields P #[f0, f1] = true)
    (h : DataW.trod enc P w base spare held fuel t [c0, c1] = some x) : ∃ (y0 y1 : DataW H × List MemPlace) (n : Nat), x.1 = .agg [y0.1, y1.1] ∧ DataW.trod enc P w base spare held n f0.type [c0] = some y0 ∧ DataW.trod enc P w base spare held n f1.type [c1] = some y1 := by
  obtain ⟨xs, n, _, hx, _, hlen, hg⟩ := DataW.trod_struct hs h
  obtain ⟨o0, k0⟩ := hone_of hone 0 f0 rfl
  obtain ⟨o1, k1⟩ := hone_of hone 1 f1 rfl
  match xs, hlen with
  | [y0, y1], _ => exact ⟨y0, y1, n, by rw [hx]; rfl, by simpa [o0, k0] using hg 0 f0 rfl, by simpa [o1, k1] using hg 1 f1 rfl⟩
theorem trod_fields3 {H : Type} {enc : TypeId × Value → H} {P : Program} {w : World} {base : Nat} {spare : Nat → Bool} {held : Bool} {fuel : Nat} {t : TypeId} {f0 f1 f2 : Field} {c0 c1 c2 : Value} {x : DataW H × List MemPlace} (hs : P.underlying t = some (.struct #[f0, f1, f2])) (hone : oneCellFields P #[f0, f1, f2] = true)
    (h : DataW.trod enc P w base spare held fuel t [c0, c1, c2] = some x) : ∃ (y0 y1 y2 : DataW H × List MemPlace) (n : Nat), x.1 = .agg [y0.1, y1.1, y2.1] ∧ DataW.trod enc P w base spare held n f0.type [c0] = some y0 ∧ DataW.trod enc P w base spare held n f1.type [c1] = some y1 ∧ DataW.trod enc P w base spare held n f2.type [c2] = some y2 := by
  obtain ⟨xs, n, _, hx, _, hlen, hg⟩ := DataW.trod_struct hs h
  obtain ⟨o0, k0⟩ := hone_of hone 0 f0 rfl
  obtain ⟨o1, k1⟩ := hone_of hone 1 f1 rfl
  obtain ⟨o2, k2⟩ := hone_of hone 2 f2 rfl
  match xs, hlen with
  | [y0, y1, y2], _ => exact ⟨y0, y1, y2, n, by rw [hx]; rfl, by simpa [o0, k0] using hg 0 f0 rfl, by simpa [o1, k1] using hg 1 f1 rfl, by simpa [o2, k2] using hg 2 f2 rfl⟩
theorem trod_fields4 {H : Type} {enc : TypeId × Value → H} {P : Program} {w : World} {base : Nat} {spare : Nat → Bool} {held : Bool} {fuel : Nat} {t : TypeId} {f0 f1 f2 f3 : Field} {c0 c1 c2 c3 : Value} {x : DataW H × List MemPlace} (hs : P.underlying t = some (.struct #[f0, f1, f2, f3])) (hone : oneCellFields P #[f0, f1, f2, f3] = true)
    (h : DataW.trod enc P w base spare held fuel t [c0, c1, c2, c3] = some x) : ∃ (y0 y1 y2 y3 : DataW H × List MemPlace) (n : Nat), x.1 = .agg [y0.1, y1.1, y2.1, y3.1] ∧ DataW.trod enc P w base spare held n f0.type [c0] = some y0 ∧ DataW.trod enc P w base spare held n f1.type [c1] = some y1 ∧ DataW.trod enc P w base spare held n f2.type [c2] = some y2 ∧ DataW.trod enc P w base spare held n f3.type [c3] = some y3 := by
  obtain ⟨xs, n, _, hx, _, hlen, hg⟩ := DataW.trod_struct hs h
  obtain ⟨o0, k0⟩ := hone_of hone 0 f0 rfl
  obtain ⟨o1, k1⟩ := hone_of hone 1 f1 rfl
  obtain ⟨o2, k2⟩ := hone_of hone 2 f2 rfl
  obtain ⟨o3, k3⟩ := hone_of hone 3 f3 rfl
  match xs, hlen with
  | [y0, y1, y2, y3], _ => exact ⟨y0, y1, y2, y3, n, by rw [hx]; rfl, by simpa [o0, k0] using hg 0 f0 rfl, by simpa [o1, k1] using hg 1 f1 rfl, by simpa [o2, k2] using hg 2 f2 rfl, by simpa [o3, k3] using hg 3 f3 rfl⟩
end Go.Proofs.Ytdeecdebhigafaa
