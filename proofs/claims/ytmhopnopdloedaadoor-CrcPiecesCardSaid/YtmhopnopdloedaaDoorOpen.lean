/- WHAT CAME IN AS DATA, READ AS 'Bytes'. -/
import Derived.Test.YtmhopnopdloedaaDoorPieces
import Derived.ProofKit
import Derived.OpenShut
import Derived.Deep.Slices
namespace Go.Proofs.YtmhopnopdloedaaDoor
open Go Go.RowKit Go.WideShapes

theorem weights_mem {H : Type} {P : Program} : ∀ {ts : List TypeId} {ds : List (DataW H)} {j t : Nat} {d : DataW H}, ts[j]? = some t → ds[j]? = some d → ∀ x ∈ d.weights P t, x ∈ DataW.weightsEach P ts ds
  | [], _, _, _, _, h, _, _, _ => by simp at h
  | _ :: _, [], _, _, _, _, h, _, _ => by simp at h
  | t :: ts, d :: ds, 0, _, _, h, h', x, hx => by
    simp at h h'; subst h h'
    simp only [DataW.weightsEach, List.mem_append]; exact .inl hx
  | t :: ts, d :: ds, j + 1, _, _, h, h', x, hx => by
    simp at h h'
    simp only [DataW.weightsEach, List.mem_append]; exact .inr (weights_mem h h' x hx)
theorem weightsAll_mem {H : Type} {P : Program} {e : TypeId} : ∀ {ds : List (DataW H)} {j : Nat} {d : DataW H}, ds[j]? = some d → ∀ x ∈ d.weights P e, x ∈ DataW.weightsAll P e ds
  | [], _, _, h, _, _ => by simp at h
  | d :: ds, 0, _, h', x, hx => by
    simp at h'; subst h'
    simp only [DataW.weightsAll, List.mem_append]; exact .inl hx
  | d :: ds, j + 1, _, h', x, hx => by
    simp at h'
    simp only [DataW.weightsAll, List.mem_append]; exact .inr (weightsAll_mem h' x hx)
theorem weights_le {H : Type} {P : Program} {ts : List TypeId} {ds : List (DataW H)} {j t : Nat} {d : DataW H} (h : (DataW.weightsEach P ts ds).all (· ≤ reachBytes) = true) (ht : ts[j]? = some t) (hd : ds[j]? = some d) : ∀ x ∈ d.weights P t, x ≤ 140737488351232 := by
  intro x hx
  have := (List.all_eq_true.1 h) x (weights_mem ht hd x hx)
  exact Nat.le_trans (of_decide_eq_true this) (by decide)
theorem bytes_of_trod {H : Type} {enc : TypeId × Value → H} {P : Program} {W : World} {spare : Nat → Bool} {held : Bool} {t e fuel : Nat} {a : Option Addr} {len cap : Nat} {x : DataW H × List MemPlace} {base : Nat}
    (ht : P.underlying t = some (.slice e)) (he : P.underlying e = some (.int .u8)) (hc : P.cellsOf e = 1) (hby : P.bytesOf e = 1)
    (hf : DataW.trod enc P W base spare held fuel t [.slice a len cap] = some x) (hw : ∀ y ∈ x.1.weights P t, y ≤ 140737488351232) : ∃ l, Bytes W (.slice a len cap) l := by
  rcases Go.ChangeShapes.open_ints ht he hc hf with ⟨hcs, _⟩ | ⟨x, l, c, zs, hcs, _, hl, hm, hz, rfl, hcell, hwz⟩
  · simp at hcs
    obtain ⟨rfl, rfl, rfl⟩ := hcs
    exact ⟨[], by simp, by simp, .inl ⟨rfl, _, _, rfl⟩⟩
  · simp at hcs
    obtain ⟨rfl, rfl, rfl⟩ := hcs
    have hlen : len ≤ zs.length := by rw [hz]; split <;> omega
    have htl : (zs.take len).length = len := by rw [List.length_take]; omega
    have hsz : zs.length ≤ 140737488351232 := by
      refine hw _ ?_
      simp only [DataW.weights, ht, hby]
      refine List.mem_cons.2 (.inl ?_)
      simp [Go.ChangeShapes.lits]
      omega
    refine ⟨zs.take len, fun c hc => bounds_u8 (hwz c (List.mem_of_mem_take hc)), by rw [htl]; omega, ?_⟩
    rcases Nat.eq_zero_or_pos len with h0 | h0
    · subst h0
      exact .inl ⟨by simp, _, _, rfl⟩
    · obtain ⟨b, off, rfl, hcc⟩ := ints_at hcell (by omega)
      refine .inr ⟨b, off, cap, by rw [htl], by rw [htl]; exact hl, fun j hj => ?_⟩
      rw [htl] at hj
      rw [hcc j (by omega)]
      simp [List.getD, hj]
theorem open_bytes {H : Type} {enc : TypeId × Value → H} {W : World} {base : Nat} {v : Value} {d : DataW H} {p : List MemPlace} {spare : Nat → Bool} {held : Bool} {r : Reach} {b0 : Nat}
    (hv : Value.okWide Tryd.prog W r b0 23 v) (h : DataW.Trod enc Tryd.prog W base spare held 23 v d p) (hw : ∀ y ∈ d.weights Tryd.prog 23, y ≤ 140737488351232) : ∃ l, Bytes W v l := by
  obtain ⟨a, len, cap, rfl⟩ := okWide_slice Tryd.underlying23 hv
  obtain ⟨fuel, hf⟩ := h
  exact bytes_of_trod Tryd.underlying23 Tryd.underlying5 (by kernel_rfl) (by kernel_rfl) (by simpa [Value.cells] using hf) hw
theorem open_pieces {H : Type} {enc : TypeId × Value → H} {W : World} {base : Nat} {v : Value} {d : DataW H} {p : List MemPlace} {spare : Nat → Bool} {held : Bool} {r : Reach} {b0 : Nat}
    (hv : Value.okWide Tryd.prog W r b0 28 v) (h : DataW.Trod enc Tryd.prog W base spare held 28 v d p) (hw : ∀ y ∈ d.weights Tryd.prog 28, y ≤ 140737488351232) : ∃ l, Pieces W v l := by
  obtain ⟨a, len, cap, rfl⟩ := okWide_slice Tryd.underlying28 hv
  obtain ⟨fuel, hf⟩ := h
  have hby : Tryd.prog.bytesOf 23 = 24 := by kernel_rfl
  rcases Go.Deep.open_slice1 Tryd.underlying28 (by kernel_rfl) (by simpa [Value.cells] using hf) with ⟨hcs, _⟩ | ⟨a', len', cap', m, n, V, D, Pl, hcs, _, hl, hm, hmm, hx, hc⟩
  · simp at hcs
    obtain ⟨rfl, rfl, rfl⟩ := hcs
    exact ⟨[], by simp, .inl ⟨rfl, _, _, rfl⟩⟩
  · simp at hcs
    obtain ⟨rfl, rfl, rfl⟩ := hcs
    simp only [Prod.mk.injEq] at hx
    obtain ⟨rfl, _⟩ := hx
    have hlm : len ≤ m := by rw [hmm]; split <;> omega
    simp only [DataW.weights, Tryd.underlying28, hby] at hw
    have hlen : len ≤ 140737488351232 := by
      have := hw _ (List.mem_cons.2 (.inl rfl))
      simp at this; omega
    have hb : ∀ j, j < len → ∃ l, Bytes W (V j) l := by
      intro j hj
      obtain ⟨_, ht⟩ := hc j (by omega)
      have hwj : ∀ y ∈ (D j).weights Tryd.prog 23, y ≤ 140737488351232 := by
        intro y hy
        refine hw y (List.mem_cons.2 (.inr (List.mem_append.2 (.inl ?_))))
        exact weightsAll_mem (j := j) (by simp [hj]) y hy
      have hsl : ∃ a l c, V j = .slice a l c := by
        rcases Go.Deep.open_slice Tryd.underlying23 ht with ⟨hcs, _⟩ | ⟨a, l, c, _, _, _, _, hcs, _⟩
        · exact ⟨_, _, _, by simpa using hcs⟩
        · exact ⟨_, _, _, by simpa using hcs⟩
      obtain ⟨a, l, c, e⟩ := hsl
      rw [e] at ht ⊢
      exact bytes_of_trod Tryd.underlying23 Tryd.underlying5 (by kernel_rfl) (by kernel_rfl) ht hwj
    obtain ⟨L, hL⟩ := Go.Deep.choose_lt (α := List Int) (p := fun j l => Bytes W (V j) l) hb
    refine ⟨(List.range len).map L, by simpa using hlen, ?_⟩
    rcases Nat.eq_zero_or_pos len with h0 | h0
    · subst h0
      exact .inl ⟨by simp, _, _, rfl⟩
    · obtain ⟨b, off, spot⟩ := a'
      have hspot : spot = none := by simpa [Addr.add] using World.cell?_spot (hc 0 (by omega)).1
      subst hspot
      refine .inr ⟨b, off, cap, by simp, fun j hj => ?_⟩
      have hj' : j < len := by simpa using hj
      refine ⟨V j, by rw [← Go.WideShapes.add_plain]; exact (hc j (by omega)).1, ?_⟩
      have e : ((List.range len).map L).getD j [] = L j := by simp [hj']
      rw [e]; exact hL j hj'
end Go.Proofs.YtmhopnopdloedaaDoor
