/- MODEL: a key's write in a set, the document's way and the program's. -/
import Derived.Test.YtdeecdebhigafaaMdlBase
namespace Go.Proofs.Ytdeecdebhigafaa
open Go Go.RowKit

theorem compare_calls (k t key : ByteArray) (g : Bool) (w : World) :
    Calls Try.prog 52 #[.agg #[.string k, .string t, .bool g], .string key] w fun e w' => e = .returned (.int .i64 (Lib.compareBytes (kb k) (kb key))) ∧ Below w.heap.size w w' := by
  have hx : ∀ W : World, (callFunc 55 #[.string k, .string key]).run Try.prog W = .ok (.value (.int .i64 (Lib.compareBytes (kb k) (kb key)))) W := fun W => by
    rw [run_callFunc_extern Try.func55 (by kernel_rfl) (by kernel_rfl) (by kernel_rfl) (e := Extern.BytealgCompare.compare) (by kernel_rfl), Lib.run_compareString, kb_data, kb_data]
    rfl
  go_enter Try.func52, Try.ntmps52
  go_wp2
  go_ret
  exact ⟨rfl, (Below.refl _ w).alloc (Nat.le_refl _) _⟩
set_option maxHeartbeats 400000 in
theorem rget_calls (v : Value) (l : List Wr) (key : ByteArray) (w : World) (hI : Rows EW w v l) :
    Calls Try.prog 43 #[v, .string key] w fun e w' => e = .returned (getV (getS l key)) ∧ Below w.heap.size w w' := by
  obtain ⟨a, cap, rfl⟩ := hI.slice
  have HI := Lib.hid hI
  have hle := hI.le
  have hcap := hI.cap_le
  clear hI
  go_enter Try.func43, Try.ntmps43
  go_wp2
  go_loop [6] (fun i => ∃ k : Nat, k ≤ l.length ∧ i = .int .i64 k ∧ ∀ (j : Nat) y, j < k → l[j]? = some y → kb y.key ≠ kb key) (fun i => l.length - (intOf i).toNat)
  case atStart => exact ⟨0, Nat.zero_le _, rfl, fun j y hj => absurd hj (by omega)⟩
  case round =>
    obtain ⟨k, hk, rfl, hno⟩ := hrel
    have HNO := Lib.hid hno
    clear hno
    by_cases hlt : k < l.length
    · obtain ⟨x, hx⟩ : ∃ x, l[k]? = some x := ⟨_, List.getElem?_eq_getElem hlt⟩
      have HX := Lib.hid hx
      obtain ⟨b, off, rfl, hz, hc0, hc1, hc2⟩ := (HI.out.alloc (.cells #[.string { data := #[] }, .string { data := #[] }, .bool false] 52)).w3 hx
      clear hz hx
      by_cases he : kb x.key = kb key
      · have e1 : (x.key.toList == key.toList) = true := by rw [beq_iff_eq]; exact he
        have HE := Lib.hid he
        clear he
        go_wp2
        refine bodyPost_ret (results_row_tmp rfl _ _ w.heap.size 52 #[.string x.key, .string x.text, .bool x.gone] (0, 0) _ rfl (heap_alloc_new w _) Try.underlying52 rfl (by kernel_rfl)) rfl ⟨by rw [getS_hit HX.out HE.out HNO.out]; rfl, (Below.refl _ w).alloc (Nat.le_refl _) _⟩
      · have e1 : (x.key.toList == key.toList) = false := by rw [beq_eq_false_iff_ne]; exact he
        have HE := Lib.hid he
        clear he
        go_wp2
        go_round
        case rel =>
          refine ⟨k + 1, hlt, by go_num, fun j y hj hy => ?_⟩
          by_cases e : j = k
          · subst e
            have := HX.out.symm.trans hy
            simp only [Option.some.injEq] at this
            subst this
            exact HE.out
          · exact HNO.out j y (by omega) hy
        case measure => simp [intOf]; omega
    · obtain rfl : k = l.length := by omega
      clear hlt hk
      go_wp2
      refine bodyPost_ret (results_row_tmp rfl _ _ w.heap.size 52 #[.string { data := #[] }, .string { data := #[] }, .bool false] (0, 0) _ rfl (heap_alloc_new w _) Try.underlying52 rfl (by kernel_rfl)) rfl ⟨by rw [getS_miss fun j y hy => HNO.out j y (List.getElem?_eq_some_iff.1 hy).1 hy]; rfl, (Below.refl _ w).alloc (Nat.le_refl _) _⟩
end Go.Proofs.Ytdeecdebhigafaa
