/- NIBBLES: Common, Less, the program's and the document's. -/
import Derived.Test.YtflobafmmfigoaaNibFns2
namespace Go.Proofs.Ytflobafmmfigoaa
open Go Go.RowKit

set_option maxHeartbeats 800000 in
theorem common_calls (v1 v2 : Value) (x y : List Int) (w : World) (hx : Ints .u8 w v1 x) (hy : Ints .u8 w v2 y) :
    Calls Try.prog 27 #[v1, v2] w fun e w' => e = .returned (.int .i64 (commonL x y : Nat)) ∧ ∃ n, w' = w.drewN n := by
  obtain ⟨a, ca, rfl⟩ := hx.slice
  obtain ⟨b, cb, rfl⟩ := hy.slice
  have h1 := hx.2.1
  have h2 := hy.2.1
  have HX := Lib.hid hx
  have HY := Lib.hid hy
  clear hx hy
  by_cases hle : y.length < x.length
  · go_enter Try.func27, Try.ntmps27
    go_wp2
    go_loopw [11] (fun i wr => ∃ k n : Nat, k ≤ y.length ∧ i = .int .i64 k ∧ k ≤ commonL x y ∧ wr = w.drewN n) (fun i _ => y.length - (intOf i).toNat)
    case atStart => exact ⟨0, 0, Nat.zero_le _, rfl, Nat.zero_le _, rfl⟩
    case round =>
      obtain ⟨k, n, hk, rfl, hc, rfl⟩ := hrel
      by_cases hlt : k < y.length
      · obtain ⟨bx, ox, rfl, hcx⟩ := HX.out.cells (by omega)
        obtain ⟨b_y, oy, rfl, hcy⟩ := HY.out.cells (by omega)
        have hx := hcx k (by omega)
        have hy := hcy k (by omega)
        have HA := Lib.hid (commonL_at x y k (by omega) (by omega) hc)
        have kx : (k : Int) < (x.length : Int) := by omega
        have ky : (k : Int) < (y.length : Int) := by omega
        clear hcx hcy
        generalize x.getD k 0 = p at *
        generalize y.getD k 0 = q at *
        by_cases e : p = q
        · have e1 : (p != q) = false := by simpa using e
          have hc' : k + 1 ≤ commonL x y := by
            have : ¬ commonL x y = k := fun h => (HA.out.1 h) e
            omega
          clear e
          go_wp2
          go_region
          all_goals
            go_wp2
            go_roundw
            case rel => exact ⟨k + 1, n + 1, by omega, by go_num, hc', rfl⟩
            case measure => simp [intOf]; omega
        · have e1 : (p != q) = true := by simpa using e
          have HC := Lib.hid (HA.out.2 e)
          clear e
          go_wp2
          go_region
          all_goals
            go_wp2
            go_ret
            exact ⟨ret_int (by rw [HC.out]), n + 1, rfl⟩
      · have HC : Hid (commonL x y = y.length) := by have := commonL_le x y; exact Lib.hid (by omega)
        go_wp2
        go_ret
        exact ⟨ret_int (by rw [HC.out]), n, rfl⟩
  · go_enter Try.func27, Try.ntmps27
    go_wp2
    go_loopw [11] (fun i wr => ∃ k n : Nat, k ≤ x.length ∧ i = .int .i64 k ∧ k ≤ commonL x y ∧ wr = w.drewN n) (fun i _ => x.length - (intOf i).toNat)
    case atStart => exact ⟨0, 0, Nat.zero_le _, rfl, Nat.zero_le _, rfl⟩
    case round =>
      obtain ⟨k, n, hk, rfl, hc, rfl⟩ := hrel
      by_cases hlt : k < x.length
      · obtain ⟨bx, ox, rfl, hcx⟩ := HX.out.cells (by omega)
        obtain ⟨b_y, oy, rfl, hcy⟩ := HY.out.cells (by omega)
        have hx := hcx k (by omega)
        have hy := hcy k (by omega)
        have HA := Lib.hid (commonL_at x y k (by omega) (by omega) hc)
        have kx : (k : Int) < (x.length : Int) := by omega
        have ky : (k : Int) < (y.length : Int) := by omega
        clear hcx hcy
        generalize x.getD k 0 = p at *
        generalize y.getD k 0 = q at *
        by_cases e : p = q
        · have e1 : (p != q) = false := by simpa using e
          have hc' : k + 1 ≤ commonL x y := by
            have : ¬ commonL x y = k := fun h => (HA.out.1 h) e
            omega
          clear e
          go_wp2
          go_region
          all_goals
            go_wp2
            go_roundw
            case rel => exact ⟨k + 1, n + 1, by omega, by go_num, hc', rfl⟩
            case measure => simp [intOf]; omega
        · have e1 : (p != q) = true := by simpa using e
          have HC := Lib.hid (HA.out.2 e)
          clear e
          go_wp2
          go_region
          all_goals
            go_wp2
            go_ret
            exact ⟨ret_int (by rw [HC.out]), n + 1, rfl⟩
      · have HC : Hid (commonL x y = x.length) := by have := commonL_le x y; exact Lib.hid (by omega)
        go_wp2
        go_ret
        exact ⟨ret_int (by rw [HC.out]), n, rfl⟩
set_option maxHeartbeats 800000 in
theorem rcommon_calls (v1 v2 : Value) (x y : List Int) (w : World) (hx : Ints .u8 w v1 x) (hy : Ints .u8 w v2 y) :
    Calls Try.prog 28 #[v1, v2] w fun e w' => e = .returned (.int .i64 (commonL x y : Nat)) ∧ ∃ n, w' = w.drewN n := by
  obtain ⟨a, ca, rfl⟩ := hx.slice
  obtain ⟨b, cb, rfl⟩ := hy.slice
  have h1 := hx.2.1
  have h2 := hy.2.1
  have HX := Lib.hid hx
  have HY := Lib.hid hy
  clear hx hy
  go_enter Try.func28, Try.ntmps28
  go_wp2
  go_loopw [5] (fun i wr => ∃ k n : Nat, i = .int .i64 k ∧ k ≤ commonL x y ∧ wr = w.drewN n) (fun i _ => x.length - (intOf i).toNat)
  case atStart => exact ⟨0, 0, rfl, Nat.zero_le _, rfl⟩
  case round =>
    obtain ⟨k, n, rfl, hc, rfl⟩ := hrel
    have ⟨hcl, hcr⟩ := commonL_le x y
    by_cases hlx : k < x.length
    · have t1 : decide ((k : Int) < (x.length : Int)) = true := by simpa using hlx
      by_cases hly : k < y.length
      · have t2 : decide ((k : Int) < (y.length : Int)) = true := by simpa using hly
        obtain ⟨bx, ox, rfl, hcx⟩ := HX.out.cells (by omega)
        obtain ⟨b_y, oy, rfl, hcy⟩ := HY.out.cells (by omega)
        have hx := hcx k (by omega)
        have hy := hcy k (by omega)
        have HA := Lib.hid (commonL_at x y k (by omega) (by omega) hc)
        have kx : (k : Int) < (x.length : Int) := by omega
        have ky : (k : Int) < (y.length : Int) := by omega
        clear hcx hcy hcl hcr
        generalize x.getD k 0 = p at *
        generalize y.getD k 0 = q at *
        by_cases e : p = q
        · have e1 : (p == q) = true := by simpa using e
          have hc' : k + 1 ≤ commonL x y := by
            have : ¬ commonL x y = k := fun h => (HA.out.1 h) e
            omega
          clear e
          go_wp2; go_quiet (fail)
          go_wp2
          go_roundw
          case rel => exact ⟨k + 1, n + nq, by go_num, hc', rfl⟩
          case measure => simp [intOf]; omega
        · have e1 : (p == q) = false := by simpa using e
          have HC := Lib.hid (HA.out.2 e)
          clear e
          go_wp2; go_quiet (fail)
          go_wp2
          go_ret
          exact ⟨ret_int (by rw [HC.out]), n + nq, World.drewN_drewN _ _ _⟩
      · have t2 : decide ((k : Int) < (y.length : Int)) = false := by simpa using hly
        have HC : Hid (commonL x y = k) := Lib.hid (by omega)
        go_wp2; go_quiet (fail)
        go_wp2
        go_ret
        exact ⟨ret_int (by rw [HC.out]), n + nq, World.drewN_drewN _ _ _⟩
    · have t1 : decide ((k : Int) < (x.length : Int)) = false := by simpa using hlx
      have HC : Hid (commonL x y = k) := Lib.hid (by omega)
      go_wp2; go_quiet (fail)
      go_wp2
      go_ret
      exact ⟨ret_int (by rw [HC.out]), n + nq, World.drewN_drewN _ _ _⟩
theorem less_calls (v1 v2 : Value) (x y : List Int) (w : World) (hx : Ints .u8 w v1 x) (hy : Ints .u8 w v2 y) :
    Calls Try.prog 29 #[v1, v2] w fun e w' => e = .returned (.bool (lessN x y)) ∧ w = w' := by
  have hc1 := hx.string (P := Try.prog) (src := 43) (e := 5) (dst := 9) Try.underlying43 Try.underlying5 Try.underlying9
  have hc2 := hy.string (P := Try.prog) (src := 43) (e := 5) (dst := 9) Try.underlying43 Try.underlying5 Try.underlying9
  have hl := lessL_eq x y hx.bd hy.bd
  have HL := Lib.hid hl
  clear hl
  obtain ⟨a, ca, rfl⟩ := hx.slice
  obtain ⟨b, cb, rfl⟩ := hy.slice
  clear hx hy
  go_enter Try.func29, Try.ntmps29
  go_wp2
  go_ret
  exact ⟨ret_bool (by rw [← HL.out]; rfl), rfl⟩
set_option maxHeartbeats 800000 in
theorem rless_calls (v1 v2 : Value) (x y : List Int) (w : World) (hx : Ints .u8 w v1 x) (hy : Ints .u8 w v2 y) :
    Calls Try.prog 30 #[v1, v2] w fun e w' => e = .returned (.bool (lessN x y)) ∧ ∃ n, w' = w.drewN n := by
  have HL := Lib.hid (lessN_common x y)
  have ⟨hcl, hcr⟩ := commonL_le x y
  have HC := Lib.hid (rcommon_calls v1 v2 x y w hx hy)
  obtain ⟨a, ca, rfl⟩ := hx.slice
  obtain ⟨b, cb, rfl⟩ := hy.slice
  have HX := Lib.hid hx
  have HY := Lib.hid hy
  clear hx hy
  generalize commonL x y = k at *
  by_cases h1 : k = y.length
  · have t1 : ((k : Int) == (y.length : Int)) = true := by rw [beq_iff_eq]; omega
    have HR : Hid (lessN x y = false) := by rw [HL.out, if_pos h1]; exact Lib.hid rfl
    clear h1
    go_enter Try.func30, Try.ntmps30
    go_wp2_with (go_at_call 28; refine HC.out.mono ?_; rintro e w' ⟨rfl, n, rfl⟩)
    go_ret
    exact ⟨ret_bool (by rw [HR.out]), n, rfl⟩
  · have t1 : ((k : Int) == (y.length : Int)) = false := by rw [beq_eq_false_iff_ne]; omega
    by_cases h2 : k = x.length
    · have t2 : ((k : Int) == (x.length : Int)) = true := by rw [beq_iff_eq]; omega
      have HR : Hid (lessN x y = true) := by rw [HL.out, if_neg h1, if_pos h2]; exact Lib.hid rfl
      clear h1 h2
      go_enter Try.func30, Try.ntmps30
      go_wp2_with (go_at_call 28; refine HC.out.mono ?_; rintro e w' ⟨rfl, n, rfl⟩)
      go_quiet (fail)
      go_wp2
      go_ret
      exact ⟨ret_bool (by rw [HR.out]), n + nq, World.drewN_drewN _ _ _⟩
    · have t2 : ((k : Int) == (x.length : Int)) = false := by rw [beq_eq_false_iff_ne]; omega
      have HR : Hid (lessN x y = decide (x.getD k 0 < y.getD k 0)) := by rw [HL.out, if_neg h1, if_neg h2]; exact Lib.hid rfl
      obtain ⟨bx, ox, rfl, hcx⟩ := HX.out.cells (by omega)
      obtain ⟨b_y, oy, rfl, hcy⟩ := HY.out.cells (by omega)
      have hx := hcx k (by omega)
      have hy := hcy k (by omega)
      have kx : (k : Int) < (x.length : Int) := by omega
      have ky : (k : Int) < (y.length : Int) := by omega
      clear hcx hcy hcl hcr h1 h2
      generalize x.getD k 0 = p at *
      generalize y.getD k 0 = q at *
      go_enter Try.func30, Try.ntmps30
      go_wp2_with (go_at_call 28; refine HC.out.mono ?_; rintro e w' ⟨rfl, n, rfl⟩)
      go_quiet (fail)
      go_wp2
      go_ret
      exact ⟨ret_bool (by rw [HR.out]), n + nq, World.drewN_drewN _ _ _⟩
end Go.Proofs.Ytflobafmmfigoaa
