/- MODEL: sets that are small, that rise, and the very same. -/
import Derived.Test.YtdeecdebhigafaaMdlMeet
namespace Go.Proofs.Ytdeecdebhigafaa
open Go Go.RowKit

def SmallW (x : Wr) : Prop := x.key.size ≤ 100 ∧ x.text.size ≤ 100
def FewW (l : List Wr) : Prop := (∀ (i : Nat) x, l[i]? = some x → SmallW x) ∧ l.length ≤ 60
set_option maxHeartbeats 400000 in
theorem few15_calls (v : Value) (l : List Wr) (w : World) (hI : Rows EW w v l) :
    Calls Try.prog 12 #[v] w fun e w' => ∃ r : Bool, e = .returned (.bool r) ∧ (r = true ↔ FewW l) ∧ Below w.heap.size w w' := by
  obtain ⟨a, cap, rfl⟩ := hI.slice
  have HI := Lib.hid hI
  have hle := hI.le
  have hcap := hI.cap_le
  clear hI
  go_enter Try.func12, Try.ntmps12
  go_wp2
  go_loopw [4, 7] (fun _ i wr => ∃ k : Nat, k ≤ l.length ∧ i = .int .i64 k ∧ (∀ (j : Nat) x, j < k → l[j]? = some x → SmallW x) ∧ Below w.heap.size w wr) (fun _ i _ => l.length - (intOf i).toNat)
  case atStart => exact ⟨0, Nat.zero_le _, rfl, fun j y hj => absurd hj (by omega), Below.refl _ _⟩
  case round =>
    obtain ⟨k, hk, rfl, hyes, hbw⟩ := hrel
    have HYES := Lib.hid hyes
    have HBW := Lib.hid hbw
    have HIR := Lib.hid (HI.out.below hbw)
    clear hyes hbw
    by_cases hlt : k < l.length
    · obtain ⟨x, hx⟩ : ∃ x, l[k]? = some x := ⟨_, List.getElem?_eq_getElem hlt⟩
      have HX := Lib.hid hx
      obtain ⟨bb, off, rfl, hz, hc0, hc1, hc2⟩ := HIR.out.w3 hx
      clear hz hx
      by_cases h1 : 100 < x.key.size
      · have t1 : decide ((100 : Int) < (x.key.size : Int)) = true := by simp; omega
        have HN : Hid (¬ FewW l) := Lib.hid (fun h => by have := (h.1 k x HX.out).1; omega)
        clear h1
        go_wp2
        go_ret
        exact ⟨_, rfl, by simp [HN.out], HBW.out.alloc HBW.out.size _⟩
      · have t1 : decide ((100 : Int) < (x.key.size : Int)) = false := by simp; omega
        by_cases h2 : 100 < x.text.size
        · have t2 : decide ((100 : Int) < (x.text.size : Int)) = true := by simp; omega
          have HN : Hid (¬ FewW l) := Lib.hid (fun h => by have := (h.1 k x HX.out).2; omega)
          clear h1 h2
          go_wp2
          go_ret
          exact ⟨_, rfl, by simp [HN.out], HBW.out.alloc HBW.out.size _⟩
        · have t2 : decide ((100 : Int) < (x.text.size : Int)) = false := by simp; omega
          have HS : Hid (SmallW x) := Lib.hid (by unfold SmallW; omega)
          clear h1 h2
          go_wp2
          go_roundw
          case rel =>
            refine ⟨k + 1, hlt, by go_num, fun j y hj hy => ?_, HBW.out.alloc HBW.out.size _⟩
            by_cases e : j = k
            · subst e
              have := HX.out.symm.trans hy
              simp only [Option.some.injEq] at this
              subst this
              exact HS.out
            · exact HYES.out j y (by omega) hy
          case measure => simp [intOf]; omega
    · obtain rfl : k = l.length := by omega
      have HALL : Hid (FewW l ↔ l.length ≤ 60) := Lib.hid ⟨fun h => h.2, fun h => ⟨fun i x hx => HYES.out i x (List.getElem?_eq_some_iff.1 hx).1 hx, h⟩⟩
      clear hlt hk
      go_wp2
      go_ret
      exact ⟨_, rfl, by rw [HALL.out, decide_eq_true_iff]; omega, HBW.out⟩
set_option maxHeartbeats 400000 in
theorem rise15_calls (v : Value) (l : List Wr) (w : World) (hI : Rows EW w v l) :
    Calls Try.prog 13 #[v] w fun e w' => ∃ r : Bool, e = .returned (.bool r) ∧ (r = true ↔ RiseW l) ∧ Below w.heap.size w w' := by
  obtain ⟨a, cap, rfl⟩ := hI.slice
  have HI := Lib.hid hI
  have hle := hI.le
  have hcap := hI.cap_le
  clear hI
  go_enter Try.func13, Try.ntmps13
  go_wp2
  go_loopw [3] (fun i wr => ∃ k m : Nat, (k + 1 ≤ l.length ∨ k = 0) ∧ i = .int .i64 ((k + 1 : Nat) : Int) ∧ (∀ (j : Nat) x y, j < k → l[j]? = some x → l[j + 1]? = some y → kb x.key < kb y.key) ∧ wr = w.drewN m) (fun i _ => l.length + 1 - (intOf i).toNat)
  case atStart => exact ⟨0, 0, .inr rfl, rfl, fun j x y hj => absurd hj (by omega), rfl⟩
  case round =>
    obtain ⟨k, m, hk, rfl, hyes, rfl⟩ := hrel
    have HYES := Lib.hid hyes
    clear hyes
    by_cases hlt : k + 1 < l.length
    · obtain ⟨x, hx⟩ : ∃ x, l[k]? = some x := ⟨_, List.getElem?_eq_getElem (by omega)⟩
      obtain ⟨y, hy⟩ : ∃ y, l[k + 1]? = some y := ⟨_, List.getElem?_eq_getElem hlt⟩
      have HX := Lib.hid hx
      have HY := Lib.hid hy
      obtain ⟨bb, off, rfl, hz, hc0, hc1, hc2⟩ := HI.out.w3 hx
      obtain ⟨bb', off', hbb, hz', hd0, hd1, hd2⟩ := HI.out.w3 hy
      simp only [Option.some.injEq, Addr.mk.injEq] at hbb
      obtain ⟨rfl, rfl, _⟩ := hbb
      clear hz hz' hx hy
      by_cases h1 : kb x.key < kb y.key
      · have t1 : Op.bytesLess x.key.toList y.key.toList = true := by rw [less_eq]; exact decide_eq_true h1
        have HS := Lib.hid h1
        clear h1
        go_wp2
        go_quiet (fail)
        go_wp2
        go_roundw
        case rel =>
          refine ⟨k + 1, _, by omega, by go_num, fun j y' z' hj hy hz => ?_, rfl⟩
          by_cases e : j = k
          · subst e
            have e1 := HX.out.symm.trans hy
            have e2 := HY.out.symm.trans hz
            simp only [Option.some.injEq] at e1 e2
            subst e1 e2
            exact HS.out
          · exact HYES.out j y' z' (by omega) hy hz
        case measure => simp [intOf]; omega
      · have t1 : Op.bytesLess x.key.toList y.key.toList = false := by rw [less_eq]; exact decide_eq_false h1
        have HN : Hid (¬ RiseW l) := Lib.hid (fun h => h1 (h k x y HX.out HY.out))
        clear h1
        go_wp2
        go_quiet (fail)
        go_wp2
        go_ret
        exact ⟨_, rfl, by simp [HN.out], below_drewN (below_drewN (Below.refl _ w) _) _⟩
    · have HALL : Hid (RiseW l) := Lib.hid (fun i x y hx hy => HYES.out i x y (by have := (List.getElem?_eq_some_iff.1 hy).1; omega) hx hy)
      clear hk
      go_wp2
      go_ret
      exact ⟨_, rfl, by simp [HALL.out], below_drewN (Below.refl _ w) _⟩
end Go.Proofs.Ytdeecdebhigafaa
