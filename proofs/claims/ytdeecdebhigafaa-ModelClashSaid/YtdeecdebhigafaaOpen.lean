/- WHAT CAME IN AS DATA, READ AS LISTS. -/
import Derived.Test.YtdeecdebhigafaaBase
namespace Go.Proofs.Ytdeecdebhigafaa
open Go Go.RowKit Go.WideShapes

theorem weights_mem {H : Type} {P : Program} : ∀ {ts : List TypeId} {ds : List (DataW H)} {j t : Nat} {d : DataW H}, ts[j]? = some t → ds[j]? = some d → ∀ x ∈ d.weights P t, x ∈ DataW.weightsEach P ts ds
  | [], _, _, _, _, h, _, _, _ => by simp at h
  | _ :: _, [], _, _, _, _, h, _, _ => by simp at h
  | t :: ts, d :: ds, 0, _, _, h, h', x, hx => by
    simp at h h'; subst h h'
    simp only [DataW.weightsEach, List.mem_append]; exact .inl hx
  | t :: ts, d :: ds, j + 1, _, _, h, h', x, hx => by
    simp at h h'
    simp only [DataW.weightsEach, List.mem_append]; exact .inr (weights_mem h h' x hx)
theorem weightsAll_mem {H : Type} {P : Program} {e : TypeId} : ∀ {ds : List (DataW H)} {j : Nat} {d : DataW H}, ds[j]? = some d → ∀ x ∈ d.weights P e, x ∈ DataW.weightsAll P e ds
  | [], _, _, h, _, _ => by simp at h
  | d :: ds, 0, _, h', x, hx => by
    simp at h'; subst h'
    simp only [DataW.weightsAll, List.mem_append]; exact .inl hx
  | d :: ds, j + 1, _, h', x, hx => by
    simp at h'
    simp only [DataW.weightsAll, List.mem_append]; exact .inr (weightsAll_mem h' x hx)
theorem weights_le {H : Type} {P : Program} {ts : List TypeId} {ds : List (DataW H)} {j t : Nat} {d : DataW H} (h : (DataW.weightsEach P ts ds).all (· ≤ reachBytes) = true) (ht : ts[j]? = some t) (hd : ds[j]? = some d) : ∀ x ∈ d.weights P t, x ≤ 140737488351232 := by
  intro x hx
  have := (List.all_eq_true.1 h) x (weights_mem ht hd x hx)
  exact Nat.le_trans (of_decide_eq_true this) (by decide)
theorem ints_of_trod {H : Type} {enc : TypeId × Value → H} {P : Program} {W : World} {spare : Nat → Bool} {held : Bool} {t e fuel : Nat} {k : IntKind} {a : Option Addr} {len cap : Nat} {x : DataW H × List MemPlace} {base : Nat}
    (ht : P.underlying t = some (.slice e)) (he : P.underlying e = some (.int k)) (hc : P.cellsOf e = 1) (hby : 1 ≤ P.bytesOf e)
    (hf : DataW.trod enc P W base spare held fuel t [.slice a len cap] = some x) (hw : ∀ y ∈ x.1.weights P t, y ≤ 140737488351232) : ∃ l, Ints k W (.slice a len cap) l := by
  rcases Go.ChangeShapes.open_ints ht he hc hf with ⟨hcs, _⟩ | ⟨x, l, c, zs, hcs, _, hl, hm, hz, rfl, hcell, hwz⟩
  · simp at hcs
    obtain ⟨rfl, rfl, rfl⟩ := hcs
    exact ⟨[], Ints.nil_ _ _⟩
  · simp at hcs
    obtain ⟨rfl, rfl, rfl⟩ := hcs
    have hlen : len ≤ zs.length := by rw [hz]; split <;> omega
    have htl : (zs.take len).length = len := by rw [List.length_take]; omega
    have hsz : zs.length ≤ 140737488351232 := by
      have h1 : zs.length * P.bytesOf e ≤ 140737488351232 := by
        refine hw _ ?_
        simp only [DataW.weights, ht]
        refine List.mem_cons.2 (.inl ?_)
        congr 1
        simp [Go.ChangeShapes.lits]
        omega
      exact Nat.le_trans (Nat.le_mul_of_pos_right _ hby) h1
    refine ⟨zs.take len, fun c hc => hwz c (List.mem_of_mem_take hc), by rw [htl]; omega, ?_⟩
    rcases Nat.eq_zero_or_pos len with h0 | h0
    · subst h0
      exact .inl ⟨by simp, _, _, rfl⟩
    · obtain ⟨b, off, rfl, hcc⟩ := ints_at hcell (by omega)
      refine .inr ⟨b, off, cap, by rw [htl], by rw [htl]; exact hl, fun j hj => ?_⟩
      rw [htl] at hj
      rw [hcc j (by omega)]
      simp [List.getD, hj]
theorem open_ints_any {H : Type} {enc : TypeId × Value → H} {P : Program} {W : World} {base : Nat} {v : Value} {d : DataW H} {p : List MemPlace} {spare : Nat → Bool} {held : Bool} {r : Reach} {b0 : Nat} {t e : Nat} {k : IntKind}
    (ht : P.underlying t = some (.slice e)) (he : P.underlying e = some (.int k)) (hc : P.cellsOf e = 1) (hby : 1 ≤ P.bytesOf e)
    (hv : Value.okWide P W r b0 t v) (h : DataW.Trod enc P W base spare held t v d p) (hw : ∀ y ∈ d.weights P t, y ≤ 140737488351232) : ∃ l, Ints k W v l := by
  obtain ⟨a, len, cap, rfl⟩ := okWide_slice ht hv
  obtain ⟨fuel, hf⟩ := h
  exact ints_of_trod ht he hc hby (by simpa [Value.cells] using hf) hw
end Go.Proofs.Ytdeecdebhigafaa
