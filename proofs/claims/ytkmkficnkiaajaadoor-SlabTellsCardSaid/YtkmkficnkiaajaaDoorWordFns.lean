/- WORD: the walks of the functions on one word, the program's. -/
import Derived.Test.YtkmkficnkiaajaaDoorRows
import Derived.Test.YtkmkficnkiaajaaDoorBits
import Derived.Test.YtkmkficnkiaajaaDoorBase
import Derived.Laws.ShiftsVarLaws
namespace Go.Proofs.YtkmkficnkiaajaaDoor
open Go Go.RowKit

/-- a place, or a number of bits, within 0 and 64 -/
def clampN (x : Int) : Nat := (min (max x 0) 64).toNat
theorem clampN_le (x : Int) : clampN x ≤ 64 := by unfold clampN; omega
theorem mask_num (k : Nat) (hk : k < 64) : IntKind.u64.wrap (IntKind.u64.wrap (2 ^ k) - 1) = ((2 ^ k - 1 : Nat) : Int) := by
  have hp : (2 : Nat) ^ k ≤ 2 ^ 63 := Nat.pow_le_pow_right (by omega) (by omega)
  have hp0 : 0 < (2 : Nat) ^ k := Nat.pow_pos (by omega)
  have e2 : (2 : Int) ^ k = ((2 ^ k : Nat) : Int) := by rw [Int.natCast_pow]; rfl
  rw [e2, IntKind.wrap_u64, IntKind.wrap_u64]
  generalize (2 : Nat) ^ k = p at *
  omega
theorem mask_hi (many : Int) (w : World) (h : 64 ≤ many) :
    Calls Tryd.prog 39 #[.int .i64 many] w fun e w' => e = .returned (.int .u64 ((2 ^ clampN many - 1 : Nat) : Int)) ∧ w = w' := by
  have e : clampN many = 64 := by unfold clampN; omega
  rw [e]
  clear e
  have t1 : decide (64 ≤ many) = true := by simpa using h
  go_enter Tryd.func39, Tryd.ntmps39
  go_wp2
  go_ret
  exact ⟨rfl, rfl⟩
theorem mask_mid (many : Int) (w : World) (h0 : 0 ≤ many) (h : many < 64) :
    Calls Tryd.prog 39 #[.int .i64 many] w fun e w' => e = .returned (.int .u64 ((2 ^ clampN many - 1 : Nat) : Int)) ∧ w = w' := by
  have t1 : decide (64 ≤ many) = false := by simp; omega
  go_enter Tryd.func39, Tryd.ntmps39
  go_wp2
  go_ret
  refine ⟨ret_int ?_, rfl⟩
  obtain ⟨k, rfl⟩ := Int.eq_ofNat_of_zero_le h0
  have e : clampN (k : Int) = k := by unfold clampN; omega
  rw [e, show (k : Int).toNat = k from rfl]
  exact mask_num k (by omega)
theorem mask_lo (many : Int) (w : World) (h : many < 0) :
    Calls Tryd.prog 39 #[.int .i64 many] w fun e w' => e = .returned (.int .u64 ((2 ^ clampN many - 1 : Nat) : Int)) ∧ w = w' := by
  have t1 : decide (64 ≤ many) = false := by simp; omega
  go_enter Tryd.func39, Tryd.ntmps39
  go_wp2
  go_ret
  refine ⟨ret_int ?_, rfl⟩
  have e : clampN many = 0 := by unfold clampN; omega
  rw [e]; rfl
theorem mask_calls (many : Int) (w : World) : Calls Tryd.prog 39 #[.int .i64 many] w fun e w' => e = .returned (.int .u64 ((2 ^ clampN many - 1 : Nat) : Int)) ∧ w = w' := by
  rcases Int.lt_or_le many 0 with h | h
  · exact mask_lo many w h
  · rcases Int.lt_or_le many 64 with h' | h'
    · exact mask_mid many w h h'
    · exact mask_hi many w h'

theorem and_mask (x M : Nat) (hx : x < 18446744073709551616) (hM : M ≤ 64) : bits .and .u64 (x : Int) ((2 ^ M - 1 : Nat) : Int) = ((x % 2 ^ M : Nat) : Int) := by
  have hp : (2 : Nat) ^ M ≤ 2 ^ 64 := Nat.pow_le_pow_right (by omega) hM
  have hp0 : 0 < (2 : Nat) ^ M := Nat.pow_pos (by omega)
  rw [u64_and_nat x (2 ^ M - 1) hx (by omega), Nat.and_two_pow_sub_one_eq_mod]
theorem div_cast (n L : Nat) : (n : Int) / 2 ^ L = ((n / 2 ^ L : Nat) : Int) := by
  have e2 : (2 : Int) ^ L = ((2 ^ L : Nat) : Int) := by rw [Int.natCast_pow]; rfl
  rw [e2]; rfl
theorem div_lt (n L : Nat) (hn : n < 18446744073709551616) : n / 2 ^ L < 18446744073709551616 := Nat.lt_of_le_of_lt (Nat.div_le_self _ _) hn
theorem wrap_shl (x L : Nat) : IntKind.u64.wrap ((x : Int) * 2 ^ L) = ((x * 2 ^ L % 18446744073709551616 : Nat) : Int) := by
  have e2 : (2 : Int) ^ L = ((2 ^ L : Nat) : Int) := by rw [Int.natCast_pow]; rfl
  rw [e2, IntKind.wrap_u64, ← Int.natCast_mul]
  rfl
theorem field_num (n L M : Nat) (hn : n < 18446744073709551616) (hM : M ≤ 64) : bits .and .u64 ((n : Int) / 2 ^ L) ((2 ^ M - 1 : Nat) : Int) = ((fieldN n L M : Nat) : Int) := by
  rw [div_cast, and_mask _ _ (div_lt _ _ hn) hM]; rfl
theorem with_num (n L M v : Nat) (hn : n < 18446744073709551616) (hv : v < 18446744073709551616) (hM : M ≤ 64) :
    bits .or .u64 (bits .andNot .u64 (n : Int) (IntKind.u64.wrap (((2 ^ M - 1 : Nat) : Int) * 2 ^ L))) (IntKind.u64.wrap (bits .and .u64 (v : Int) ((2 ^ M - 1 : Nat) : Int) * 2 ^ L)) = ((withN n L M v : Nat) : Int) := by
  rw [and_mask v M hv hM, wrap_shl, wrap_shl, u64_andNot_nat n _ hn (Nat.mod_lt _ (by omega)), u64_or_nat _ _ (Nat.lt_of_le_of_lt Nat.and_le_left hn) (Nat.mod_lt _ (by omega))]
  rfl
theorem clampN_lo {x : Int} (h : x < 0) : clampN x = 0 := by unfold clampN; omega
theorem clampN_mid (k : Nat) (h : k ≤ 64) : clampN (k : Int) = k := by unfold clampN; omega
theorem clampN_hi {x : Int} (h : 64 < x) : clampN x = 64 := by unfold clampN; omega
theorem field_calls (n : Nat) (low many : Int) (w : World) (hn : n < 18446744073709551616) :
    Calls Tryd.prog 14 #[.int .u64 n, .int .i64 low, .int .i64 many] w fun e w' => e = .returned (.int .u64 ((fieldN n (clampN low) (clampN many) : Nat) : Int)) ∧ ∃ m, w' = w.drewN m := by
  have HN := Lib.hid hn
  clear hn
  have hL : low < 0 ∨ (0 ≤ low ∧ low < 64) ∨ low = 64 ∨ 64 < low := by omega
  rcases hL with h | ⟨h, h'⟩ | rfl | h
  all_goals
    go_enter Tryd.func14, Tryd.ntmps14
    go_wp2
    go_quiet ((go_at_call 39; exact Calls.quiet_of_eq (mask_calls _ _)))
    go_wp2
    go_ret
    refine ⟨ret_int ?_, _, rfl⟩
  · have h2 := field_num n 0 (clampN many) HN.out (clampN_le _)
    rw [clampN_lo h, ← h2]; simp
  · obtain ⟨k, rfl⟩ := Int.eq_ofNat_of_zero_le h
    rw [clampN_mid k (by omega)]
    exact field_num n k (clampN many) HN.out (clampN_le _)
  · exact field_num n 64 (clampN many) HN.out (clampN_le _)
  · rw [clampN_hi h]
    exact field_num n 64 (clampN many) HN.out (clampN_le _)
theorem with_calls (n v : Nat) (low many : Int) (w : World) (hn : n < 18446744073709551616) (hv : v < 18446744073709551616) :
    Calls Tryd.prog 16 #[.int .u64 n, .int .i64 low, .int .i64 many, .int .u64 v] w fun e w' => e = .returned (.int .u64 ((withN n (clampN low) (clampN many) v : Nat) : Int)) ∧ ∃ m, w' = w.drewN m := by
  have HN := Lib.hid hn
  have HV := Lib.hid hv
  clear hn hv
  have hL : low < 0 ∨ (0 ≤ low ∧ low < 64) ∨ low = 64 ∨ 64 < low := by omega
  rcases hL with h | ⟨h, h'⟩ | rfl | h
  all_goals
    go_enter Tryd.func16, Tryd.ntmps16
    go_wp2
    go_quiet ((go_at_call 39; exact Calls.quiet_of_eq (mask_calls _ _)))
    go_wp2
    go_ret
    refine ⟨ret_int ?_, _, rfl⟩
  · have h2 := with_num n 0 (clampN many) v HN.out HV.out (clampN_le _)
    rw [clampN_lo h, ← h2]; simp
  · obtain ⟨k, rfl⟩ := Int.eq_ofNat_of_zero_le h
    rw [clampN_mid k (by omega)]
    exact with_num n k (clampN many) v HN.out HV.out (clampN_le _)
  · exact with_num n 64 (clampN many) v HN.out HV.out (clampN_le _)
  · rw [clampN_hi h]
    exact with_num n 64 (clampN many) v HN.out HV.out (clampN_le _)
end Go.Proofs.YtkmkficnkiaajaaDoor
