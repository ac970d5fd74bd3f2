/- WORD: the lowest bit that is not set, the program's and the document's. -/
import Derived.Test.YtkmkficnkiaajaaDoorWordRef
import Derived.Lib.TrailingZeros
namespace Go.Proofs.YtkmkficnkiaajaaDoor
open Go Go.RowKit

/-- the table of bits.TrailingZeros64 -/
def TabZ (w : World) : Prop := ∀ j : Nat, j < 64 → w.cell? ⟨2, j, none⟩ = some (.int .u8 ((Lib.deBruijn64tab.getD j 0 : Nat) : Int))
theorem TabZ.drewN {w : World} (h : TabZ w) (n : Nat) : TabZ (w.drewN n) := h
theorem TabZ.drew {w : World} (h : TabZ w) : TabZ w.drew := h
theorem TabZ.below {w w' : World} (h : TabZ w) (hb : Below w.heap.size w w') : TabZ w' :=
  fun j hj => (hb.cell (World.block_lt_of_cell? w _ (h j hj))).trans (h j hj)
/-- how many of the lowest bits are set -/
def lowN (n : Nat) : Nat := Lib.ctz 64 (18446744073709551615 - n)
theorem lowN_tells (n : Nat) (hn : n < 18446744073709551616) : lowN n ≤ 64 ∧ (∀ i, i < lowN n → n.testBit i = true) ∧ (lowN n < 64 → n.testBit (lowN n) = false) := by
  have hbit : ∀ i, i < 64 → n.testBit i = !(18446744073709551615 - n).testBit i := fun i hi => by rw [tb_compl hn]; simp [hi]
  unfold lowN Lib.ctz
  by_cases h0 : 18446744073709551615 - n = 0
  · rw [if_pos h0]
    refine ⟨Nat.le_refl _, fun i hi => ?_, fun h => by omega⟩
    rw [hbit i hi, h0]; simp
  · rw [if_neg h0]
    obtain ⟨m, hm, hk⟩ := Lib.ctzFrom_spec 64 (18446744073709551615 - n) (by omega) (by omega)
    generalize Lib.ctzFrom 64 (18446744073709551615 - n) = k at *
    refine ⟨by omega, fun i hi => ?_, fun _ => ?_⟩
    · rw [hbit i (by omega), hm, Nat.testBit_two_pow_mul]
      simp; omega
    · rw [hbit k hk, hm, Nat.testBit_two_pow_mul]
      simp
theorem lowN_unique {n k : Nat} (hn : n < 18446744073709551616) (h1 : ∀ i, i < k → n.testBit i = true) (h2 : n.testBit k = false) (hk : k < 64) : lowN n = k := by
  obtain ⟨a, b, c⟩ := lowN_tells n hn
  rcases Nat.lt_trichotomy (lowN n) k with h | h | h
  · have := h1 _ h; rw [c (by omega)] at this; simp at this
  · exact h
  · have := b _ h; rw [h2] at this; simp at this
theorem lowN_ge {n k : Nat} (hn : n < 18446744073709551616) (h1 : ∀ i, i < k → n.testBit i = true) (hk : k ≤ 64) : k ≤ lowN n := by
  obtain ⟨a, b, c⟩ := lowN_tells n hn
  rcases Nat.lt_or_ge (lowN n) k with h | h
  · have := h1 _ h; rw [c (by omega)] at this; simp at this
  · exact h
/-- what 'Low' tells -/
def lowS (n : Nat) (many : Int) : Int := if ((lowN n : Nat) : Int) < min many 64 then ((lowN n : Nat) : Int) else -1

theorem neg_num (x : Nat) (h0 : 0 < x) (h : x < 18446744073709551616) : IntKind.u64.wrap (-(x : Int)) = ((2 ^ 64 - x : Nat) : Int) := by
  rw [IntKind.wrap_u64]
  have : (2 : Nat) ^ 64 = 18446744073709551616 := rfl
  omega
theorem ctz_zero (w : World) : Calls Tryd.prog 42 #[.int .u64 0] w fun e w' => e = .returned (.int .i64 64) ∧ w = w' := by
  go_enter Tryd.func42, Tryd.ntmps42
  go_wp2
  go_ret
  exact ⟨rfl, rfl⟩
theorem ctz_and (x k m : Nat) (h0 : 0 < x) (hx : x < 18446744073709551616) (hm : x = 2 ^ k * (2 * m + 1)) : bits .and .u64 (x : Int) (IntKind.u64.wrap (-(x : Int))) = ((2 ^ k : Nat) : Int) := by
  have p : (2 : Nat) ^ 64 = 18446744073709551616 := by decide
  have h2 := Lib.and_neg 64 k m (by rw [← hm, p]; exact hx)
  rw [← hm, p] at h2
  rw [IntKind.wrap_u64]
  have e : (-(x : Int)) % 18446744073709551616 = ((18446744073709551616 - x : Nat) : Int) := by omega
  rw [e, u64_and_nat x _ hx (by omega), h2]
theorem ctz_idx (p : Nat) : IntKind.u64.wrap ((p : Int) * 285870213051353865) / 288230376151711744 = ((p * 285870213051353865 % 18446744073709551616 / 288230376151711744 : Nat) : Int) := by
  rw [IntKind.wrap_u64]
  omega
theorem ctz_walk (x p j k : Nat) (w : World) (h0 : 0 < x) (hj : j < 64) (hk : k < 64) (han : bits .and .u64 (x : Int) (IntKind.u64.wrap (-(x : Int))) = (p : Int)) (hidx : IntKind.u64.wrap ((p : Int) * 285870213051353865) / 288230376151711744 = (j : Int))
    (hcell : w.cell? ⟨2, j, none⟩ = some (.int .u8 (k : Int))) :
    Calls Tryd.prog 42 #[.int .u64 x] w fun e w' => e = .returned (.int .i64 k) ∧ w = w' := by
  have t1 : ((x : Int) == 0) = false := by simp; omega
  go_enter Tryd.func42, Tryd.ntmps42
  go_wp2
  go_ret
  exact ⟨rfl, rfl⟩
theorem ctz_calls (x : Nat) (w : World) (hx : x < 18446744073709551616) (hT : TabZ w) :
    Calls Tryd.prog 42 #[.int .u64 x] w fun e w' => e = .returned (.int .i64 ((Lib.ctz 64 x : Nat) : Int)) ∧ w = w' := by
  by_cases h0 : x = 0
  · subst h0
    exact ctz_zero w
  · have e : Lib.ctz 64 x = Lib.ctzFrom 64 x := by unfold Lib.ctz; rw [if_neg h0]
    rw [e]
    obtain ⟨m, hm, hk⟩ := Lib.ctzFrom_spec 64 x (by omega) (Nat.lt_of_lt_of_le hx (by decide))
    obtain ⟨d1, d2⟩ := Lib.deBruijn64_at _ hk
    have hcell := hT _ d1
    rw [d2] at hcell
    exact ctz_walk x _ _ _ w (by omega) d1 hk (ctz_and x _ m (by omega) hx hm) (ctz_idx _) hcell
theorem xor_max (n : Nat) (hn : n < 18446744073709551616) : bits .xor .u64 IntKind.u64.max (n : Int) = ((18446744073709551615 - n : Nat) : Int) := by
  have e : IntKind.u64.max = ((18446744073709551615 : Nat) : Int) := by decide
  rw [e, u64_xor_nat _ n (by omega) hn]
  congr 1
  apply bits_eq
  intro i
  rw [Nat.testBit_xor, tb_compl hn]
  have p : (18446744073709551615 : Nat) = 2 ^ 64 - 1 := by decide
  rw [p, tb_mask]
  by_cases h : i < 64
  · simp [h]
  · rw [tb_hi hn (by omega)]; simp [h]
theorem low_calls (n : Nat) (many : Int) (w : World) (hn : n < 18446744073709551616) (hT : TabZ w) :
    Calls Tryd.prog 18 #[.int .u64 n, .int .i64 many] w fun e w' => e = .returned (.int .i64 (lowS n many)) ∧ w = w' := by
  have hle := (lowN_tells n hn).1
  have HC : Hid (Calls Tryd.prog 42 #[.int .u64 (bits .xor .u64 IntKind.u64.max (n : Int))] w fun e w' => e = .returned (.int .i64 ((lowN n : Nat) : Int)) ∧ w = w') := Lib.hid (by rw [xor_max n hn]; exact ctz_calls _ w (by omega) hT)
  clear hT hn
  unfold lowS
  generalize lowN n = c at *
  have hc : (many < 64 ∧ (c : Int) < many) ∨ (many < 64 ∧ many ≤ c) ∨ (64 < many ∧ c < 64) ∨ (64 < many ∧ c = 64) ∨ (many = 64 ∧ c < 64) ∨ (many = 64 ∧ c = 64) := by omega
  rcases hc with ⟨h, h'⟩ | ⟨h, h'⟩ | ⟨h, h'⟩ | ⟨h, rfl⟩ | ⟨rfl, h⟩ | ⟨rfl, rfl⟩
  · rw [if_pos (by omega)]
    go_enter Tryd.func18, Tryd.ntmps18
    go_wp2_with (go_at_call 42; (with_reducible refine HC.out.mono ?_); rintro e w' ⟨rfl, rfl⟩)
    go_ret
    exact ⟨rfl, rfl⟩
  · rw [if_neg (by omega)]
    go_enter Tryd.func18, Tryd.ntmps18
    go_wp2_with (go_at_call 42; (with_reducible refine HC.out.mono ?_); rintro e w' ⟨rfl, rfl⟩)
    go_ret
    exact ⟨rfl, rfl⟩
  · rw [if_pos (by omega)]
    go_enter Tryd.func18, Tryd.ntmps18
    go_wp2_with (go_at_call 42; (with_reducible refine HC.out.mono ?_); rintro e w' ⟨rfl, rfl⟩)
    go_ret
    exact ⟨rfl, rfl⟩
  · rw [if_neg (by omega)]
    go_enter Tryd.func18, Tryd.ntmps18
    go_wp2_with (go_at_call 42; (with_reducible refine HC.out.mono ?_); rintro e w' ⟨rfl, rfl⟩)
    go_ret
    exact ⟨rfl, rfl⟩
  · rw [if_pos (by omega)]
    go_enter Tryd.func18, Tryd.ntmps18
    go_wp2_with (go_at_call 42; (with_reducible refine HC.out.mono ?_); rintro e w' ⟨rfl, rfl⟩)
    go_ret
    exact ⟨rfl, rfl⟩
  · rw [if_neg (by omega)]
    go_enter Tryd.func18, Tryd.ntmps18
    go_wp2_with (go_at_call 42; (with_reducible refine HC.out.mono ?_); rintro e w' ⟨rfl, rfl⟩)
    go_ret
    exact ⟨rfl, rfl⟩

theorem rlow_calls (n : Nat) (many : Int) (w : World) (hn : n < 18446744073709551616) :
    Calls Tryd.prog 19 #[.int .u64 n, .int .i64 many] w fun e w' => e = .returned (.int .i64 (lowS n many)) ∧ ∃ m, w' = w.drewN m := by
  have HN := Lib.hid hn
  have hle := (lowN_tells n hn).1
  clear hn
  obtain ⟨K, hK⟩ : ∃ K, K = clampN many := ⟨_, rfl⟩
  have hm : K ≤ 64 ∧ (K : Int) = min (max many 0) 64 := by unfold clampN at hK; omega
  have HM := Lib.hid hm
  clear hK hm
  go_enter Tryd.func19, Tryd.ntmps19
  go_wp2
  go_loopw [5] (fun i wr => ∃ k m : Nat, k ≤ K ∧ i = .int .i64 k ∧ (∀ j, j < k → n.testBit j = true) ∧ wr = w.drewN m) (fun i _ => K - (intOf i).toNat)
  case atStart => exact ⟨0, 0, Nat.zero_le _, rfl, fun j hj => absurd hj (by omega), rfl⟩
  case round =>
    obtain ⟨k, m, hk, rfl, hall, rfl⟩ := hrel
    have HALL := Lib.hid hall
    clear hall
    have hm := HM.out
    by_cases hlt : k < K
    · have u1 : decide ((k : Int) < many) = true := by simp; omega
      have u2 : decide ((k : Int) < 64) = true := by simp; omega
      have kb : k < 64 := by omega
      clear hm
      cases hb : n.testBit k
      · have HR : Hid (lowS n many = (k : Int)) := Lib.hid (by
          have hm := HM.out
          have := lowN_unique HN.out HALL.out hb (by omega)
          unfold lowS
          rw [this, if_pos (by omega)])
        have HB := Lib.hid hb
        clear hb
        go_wp2_with (go_at_call 40; refine (bit_calls n _ k _ HN.out rfl).mono ?_; rintro e w' ⟨rfl, mb, rfl⟩; rw [HB.out])
        go_ret
        exact ⟨ret_int HR.out.symm, _, rfl⟩
      · have HB := Lib.hid hb
        clear hb
        go_wp2_with (go_at_call 40; refine (bit_calls n _ k _ HN.out rfl).mono ?_; rintro e w' ⟨rfl, mb, rfl⟩; rw [HB.out])
        go_roundw
        case rel => exact ⟨k + 1, _, hlt, by go_num, fun j hj => by (rcases Nat.lt_or_ge j k with h | h); (exact HALL.out j h); (obtain rfl : j = k := by omega); (exact HB.out), rfl⟩
        case measure => simp [intOf]; omega
    · obtain rfl : k = K := by omega
      have HR : Hid (lowS n many = -1) := Lib.hid (by
        have := lowN_ge HN.out HALL.out (by omega)
        unfold lowS
        rw [if_neg (by omega)])
      have u1 : many ≤ 0 ∧ k = 0 ∨ 0 < many ∧ many = k ∨ (k : Int) < many ∧ k = 64 := by omega
      clear hm
      rcases u1 with ⟨u, rfl⟩ | ⟨u, rfl⟩ | ⟨u, rfl⟩
      all_goals
        go_wp2
        go_ret
        exact ⟨ret_int HR.out.symm, m, rfl⟩
end Go.Proofs.YtkmkficnkiaajaaDoor
