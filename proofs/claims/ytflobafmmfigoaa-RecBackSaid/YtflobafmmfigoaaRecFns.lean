/- REC: the walks of the functions. -/
import Derived.Test.YtflobafmmfigoaaRows
import Derived.Test.YtflobafmmfigoaaRecMath
import Derived.Test.YtflobafmmfigoaaHeld
import Derived.Test.YtflobafmmfigoaaGrow
import Derived.Deep.RegionLaw
import Derived.Deep.AppendLies
namespace Go.Proofs.Ytflobafmmfigoaa
open Go Go.RowKit

theorem rowOf25 : RowOf Try.prog 25 22 .u64 8 := ⟨Try.underlying25, by kernel_rfl⟩
theorem toList_empty (t : ByteArray) : t.toList.isEmpty = decide (t.size = 0) := by
  rw [← strOf_bytes t, toList_strOf, strOfNums_size]
  cases bytesOf t <;> simp
theorem getD_ext {x y : List Int} (hl : x.length = y.length) (h : ∀ j, j < x.length → x.getD j 0 = y.getD j 0) : x = y := by
  apply List.ext_getElem hl
  intro i h1 h2
  have := h i h1
  simpa [h1, h2] using this

theorem right_calls (s n : Int) (g : Bool) (t : ByteArray) (w : World) :
    Calls Try.prog 19 #[.agg #[.int .u64 s, .int .u64 n, .bool g, .string t]] w fun e w' => e = .returned (.bool (decide (recOk s g t))) ∧ Below w.heap.size w w' := by
  have HB : Hid (∀ o, Below w.heap.size w (w.alloc o)) := Lib.hid (fun o => (Below.refl w.heap.size w).alloc (Nat.le_refl _) o)
  cases g
  all_goals
    go_enter Try.func19, Try.ntmps19
    go_wp2
    all_goals
      go_ret
      refine ⟨ret_bool ?_, HB.out _⟩
      (try rw [toList_empty])
      rw [Bool.eq_iff_iff]
      simp only [decide_eq_true_eq]
      unfold recOk
      generalize t.size = m at *
      simp
      try omega

theorem rright_calls (s n : Int) (g : Bool) (t : ByteArray) (w : World) :
    Calls Try.prog 20 #[.agg #[.int .u64 s, .int .u64 n, .bool g, .string t]] w fun e w' => e = .returned (.bool (decide (recOk s g t))) ∧ Below w.heap.size w w' := by
  have HB : Hid (∀ o, Below w.heap.size w (w.alloc o)) := Lib.hid (fun o => (Below.refl w.heap.size w).alloc (Nat.le_refl _) o)
  cases g
  all_goals
    go_enter Try.func20, Try.ntmps20
    go_wp2
    all_goals
      go_ret
      refine ⟨ret_bool ?_, HB.out _⟩
      (try rw [toList_empty])
      rw [Bool.eq_iff_iff]
      simp only [decide_eq_true_eq]
      unfold recOk
      generalize t.size = m at *
      simp
      try omega

set_option maxHeartbeats 800000 in
theorem same_calls (v1 v2 : Value) (x y : List Int) (w : World) (hx : Ints .u64 w v1 x) (hy : Ints .u64 w v2 y) :
    Calls Try.prog 21 #[v1, v2] w fun e w' => e = .returned (.bool (decide (x = y))) ∧ ∃ n, w' = w.drewN n := by
  obtain ⟨a, ca, rfl⟩ := hx.slice
  obtain ⟨b, cb, rfl⟩ := hy.slice
  have h1 := hx.2.1
  have h2 := hy.2.1
  have HX := Lib.hid hx
  have HY := Lib.hid hy
  clear hx hy
  by_cases hl : x.length = y.length
  · have t1 : ((x.length : Int) != (y.length : Int)) = false := by simp [hl]
    rw [← hl]
    rw [← hl] at HY t1
    have HL := Lib.hid hl
    clear hl
    go_enter Try.func21, Try.ntmps21
    go_wp2
    go_loopw [5] (fun i wr => ∃ k n : Nat, i = .int .i64 k ∧ k ≤ x.length ∧ (∀ j, j < k → x.getD j 0 = y.getD j 0) ∧ wr = w.drewN n) (fun i _ => x.length - (intOf i).toNat)
    case atStart => exact ⟨0, 0, rfl, Nat.zero_le _, fun j hj => absurd hj (by omega), rfl⟩
    case round =>
      obtain ⟨k, n, rfl, hk, hc, rfl⟩ := hrel
      have HC := Lib.hid hc
      clear hc
      by_cases hlt : k < x.length
      · obtain ⟨bx, ox, rfl, hcx⟩ := HX.out.cells (by omega)
        obtain ⟨b_y, oy, hbb, hcy⟩ := HY.out.cells (by have := HL.out; omega)
        subst hbb
        have hx := hcx k (by omega)
        have hy := hcy k (by have := HL.out; omega)
        have kx : (k : Int) < (x.length : Int) := by omega
        clear hcx hcy
        by_cases e : x.getD k 0 = y.getD k 0
        · have HC' : Hid (∀ j, j < k + 1 → x.getD j 0 = y.getD j 0) := Lib.hid (fun j hj => by
            rcases Nat.lt_or_ge j k with h | h
            · exact HC.out j h
            · have : j = k := by omega
              subst this; exact e)
          rw [← e] at hy
          clear e
          generalize x.getD k 0 = p at hx hy
          have e1 : (p != p) = false := by simp
          go_wp2
          go_region
          all_goals
            go_wp2
            go_roundw
            case rel => exact ⟨k + 1, n + 1, by go_num, hlt, HC'.out, rfl⟩
            case measure => simp [intOf]; omega
        · have HE : Hid (¬ x = y) := Lib.hid (fun h => e (by rw [h]))
          have e1 : (x.getD k 0 != y.getD k 0) = true := by simpa using e
          clear e
          generalize x.getD k 0 = p at *
          generalize y.getD k 0 = q at *
          go_wp2
          go_region
          all_goals
            go_wp2
            go_ret
            exact ⟨ret_bool (by simpa using HE.out), n + 1, rfl⟩
      · have HE : Hid (x = y) := Lib.hid (getD_ext HL.out (fun j hj => HC.out j (by omega)))
        go_wp2
        go_ret
        exact ⟨ret_bool (by simpa using HE.out), n, rfl⟩
  · have t1 : ((x.length : Int) != (y.length : Int)) = true := by simp; omega
    go_enter Try.func21, Try.ntmps21
    go_wp2
    go_ret
    exact ⟨ret_bool (by simp; intro h; exact hl (by rw [h])), 0, rfl⟩

set_option maxHeartbeats 800000 in
theorem equal_calls (v1 v2 : Value) (x y : List Int) (w : World) (hx : Ints .u64 w v1 x) (hy : Ints .u64 w v2 y) :
    Calls Try.prog 35 #[v1, v2] w fun e w' => e = .returned (.bool (decide (x = y))) ∧ ∃ n, w' = w.drewN n := by
  obtain ⟨a, ca, rfl⟩ := hx.slice
  obtain ⟨b, cb, rfl⟩ := hy.slice
  have h1 := hx.2.1
  have h2 := hy.2.1
  have HX := Lib.hid hx
  have HY := Lib.hid hy
  clear hx hy
  by_cases hl : x.length = y.length
  · have t1 : ((x.length : Int) != (y.length : Int)) = false := by simp [hl]
    rw [← hl]
    rw [← hl] at HY t1
    have HL := Lib.hid hl
    clear hl
    go_enter Try.func35, Try.ntmps35
    go_wp2
    go_loopw [13] (fun i wr => ∃ k n : Nat, i = .int .i64 k ∧ k ≤ x.length ∧ (∀ j, j < k → x.getD j 0 = y.getD j 0) ∧ wr = w.drewN n) (fun i _ => x.length - (intOf i).toNat)
    case atStart => exact ⟨0, 0, rfl, Nat.zero_le _, fun j hj => absurd hj (by omega), rfl⟩
    case round =>
      obtain ⟨k, n, rfl, hk, hc, rfl⟩ := hrel
      have HC := Lib.hid hc
      clear hc
      by_cases hlt : k < x.length
      · obtain ⟨bx, ox, rfl, hcx⟩ := HX.out.cells (by omega)
        obtain ⟨b_y, oy, hbb, hcy⟩ := HY.out.cells (by have := HL.out; omega)
        subst hbb
        have hx := hcx k (by omega)
        have hy := hcy k (by have := HL.out; omega)
        have kx : (k : Int) < (x.length : Int) := by omega
        clear hcx hcy
        by_cases e : x.getD k 0 = y.getD k 0
        · have HC' : Hid (∀ j, j < k + 1 → x.getD j 0 = y.getD j 0) := Lib.hid (fun j hj => by
            rcases Nat.lt_or_ge j k with h | h
            · exact HC.out j h
            · have : j = k := by omega
              subst this; exact e)
          rw [← e] at hy
          clear e
          generalize x.getD k 0 = p at hx hy
          have e1 : (p != p) = false := by simp
          go_wp2
          go_region
          all_goals
            go_wp2
            go_roundw
            case rel => exact ⟨k + 1, n + 1, by go_num, hlt, HC'.out, rfl⟩
            case measure => simp [intOf]; omega
        · have HE : Hid (¬ x = y) := Lib.hid (fun h => e (by rw [h]))
          have e1 : (x.getD k 0 != y.getD k 0) = true := by simpa using e
          clear e
          generalize x.getD k 0 = p at *
          generalize y.getD k 0 = q at *
          go_wp2
          go_region
          all_goals
            go_wp2
            go_ret
            exact ⟨ret_bool (by simpa using HE.out), n + 1, rfl⟩
      · have HE : Hid (x = y) := Lib.hid (getD_ext HL.out (fun j hj => HC.out j (by omega)))
        go_wp2
        go_ret
        exact ⟨ret_bool (by simpa using HE.out), n, rfl⟩
  · have t1 : ((x.length : Int) != (y.length : Int)) = true := by simp; omega
    go_enter Try.func35, Try.ntmps35
    go_wp2
    go_ret
    exact ⟨ret_bool (by simp; intro h; exact hl (by rw [h])), 0, rfl⟩
end Go.Proofs.Ytflobafmmfigoaa
