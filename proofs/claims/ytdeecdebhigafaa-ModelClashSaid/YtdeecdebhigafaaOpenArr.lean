/- AN ARRAY OF WHOLE NUMBERS THAT CAME IN AS DATA. -/
import Derived.Test.YtdeecdebhigafaaOpen
import Derived.Lib.LaidTab
namespace Go.Proofs.Ytdeecdebhigafaa
open Go Go.RowKit Go.WideShapes

theorem open_arr_ints {H : Type} {enc : TypeId × Value → H} {P : Program} {W : World} {base : Nat} {v : Value} {d : DataW H} {p : List MemPlace} {spare : Nat → Bool} {held : Bool} {r : Reach} {b0 : Nat} {t e n : Nat} {k : IntKind}
    (ht : P.underlying t = some (.array n e)) (he : P.underlying e = some (.int k)) (hce : P.cellsOf e = 1) (hct : P.cellsOf t = n)
    (hv : Value.okWide P W r b0 t v) (h : DataW.Trod enc P W base spare held t v d p) :
    ∃ zs : List Int, v = .agg (zs.map (Value.int k)).toArray ∧ zs.length = n ∧ ∀ z ∈ zs, (Lit.int k z).wf = true := by
  simp only [Value.okWide, ht] at hv
  obtain ⟨cs, rfl, hsz, _⟩ := hv
  rw [hct] at hsz
  obtain ⟨fuel, hf⟩ := h
  cases fuel with
  | zero => simp [DataW.trod] at hf
  | succ fuel =>
    simp only [DataW.trod, ht, hce, hct, Nat.mul_one, Value.cells] at hf
    split at hf
    · obtain ⟨xs, hm, hx⟩ := Option.map_eq_some_iff.1 hf
      have hxl : xs.length = n := by simpa using Lib.mapM_length hm
      have hat : ∀ i, i < n → ∃ z, cs[i]? = some (.int k z) ∧ (Lit.int k z).wf = true := fun i hi => by
        obtain ⟨b, hb, hf⟩ := Lib.mapM_at hm i i (by simp [hi])
        obtain ⟨z, hc, _, hw⟩ := DataW.trod_int he hf
        refine ⟨z, ?_, hw⟩
        have := congrArg (·[0]?) hc
        simpa [List.getElem?_take, List.getElem?_drop] using this
      refine ⟨(List.range n).map fun i => intOf (cs[i]?.getD undef), ?_, by simp, ?_⟩
      · congr 1
        apply Array.ext_getElem?
        intro i
        by_cases hi : i < n
        · obtain ⟨z, hz, _⟩ := hat i hi
          simp [hi, hz, intOf]
        · rw [Array.getElem?_eq_none (by omega), Array.getElem?_eq_none (by simp; omega)]
      · intro z hz
        simp only [List.mem_map, List.mem_range] at hz
        obtain ⟨i, hi, rfl⟩ := hz
        obtain ⟨z, hz, hw⟩ := hat i hi
        simp only [hz, Option.getD_some, intOf]
        exact hw
    · cases hf
theorem list3 {zs : List Int} (h : zs.length = 3) : ∃ a b c, zs = [a, b, c] := by
  match zs, h with
  | [a, b, c], _ => exact ⟨a, b, c, rfl⟩
theorem list2 {zs : List Int} (h : zs.length = 2) : ∃ a b, zs = [a, b] := by
  match zs, h with
  | [a, b], _ => exact ⟨a, b, rfl⟩
end Go.Proofs.Ytdeecdebhigafaa
