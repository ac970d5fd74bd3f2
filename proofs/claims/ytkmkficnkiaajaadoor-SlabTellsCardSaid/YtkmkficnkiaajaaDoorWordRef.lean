/- WORD: the walks of the functions on one word, the document's. -/
import Derived.Test.YtkmkficnkiaajaaDoorWordFns
namespace Go.Proofs.YtkmkficnkiaajaaDoor
open Go Go.RowKit

theorem wrap_nat (x : Nat) (h : x < 18446744073709551616) : IntKind.u64.wrap (x : Int) = (x : Int) := by rw [IntKind.wrap_u64]; omega
theorem power_calls (i : Int) (k p : Nat) (w : World) (hi : i = k) (hk : k < 64) (hp : p = 2 ^ k) : Calls Tryd.prog 41 #[.int .i64 i] w fun e w' => e = .returned (.int .u64 (p : Int)) ∧ w = w' := by
  subst hi hp
  go_enter Tryd.func41, Tryd.ntmps41
  go_wp2
  go_loop [3, 4] (fun x i => ∃ j : Nat, j ≤ k ∧ i = .int .i64 j ∧ x = .int .u64 ((2 ^ j : Nat) : Int)) (fun _ i => k - (intOf i).toNat)
  case atStart => exact ⟨0, Nat.zero_le _, rfl, rfl⟩
  case round =>
    obtain ⟨j, hj, rfl, rfl⟩ := hrel
    by_cases hlt : j < k
    · have hp : (2 : Nat) ^ j ≤ 2 ^ 62 := Nat.pow_le_pow_right (by omega) (by omega)
      have hs : (2 : Nat) ^ (j + 1) = 2 ^ j * 2 := Nat.pow_succ ..
      have HS := Lib.hid hs
      clear hs
      generalize hq : (2 : Nat) ^ j = q at *
      have hq' := Lib.hid hq
      clear hq
      have hw : IntKind.u64.wrap ((q : Int) * 2) = ((q * 2 : Nat) : Int) := by rw [IntKind.wrap_u64]; omega
      go_wp2
      go_round
      case rel => exact ⟨j + 1, hlt, by go_num, by rw [HS.out, Int.natCast_mul]; rfl⟩
      case measure => simp [intOf]; omega
    · obtain rfl : j = k := by omega
      go_wp2
      go_ret
      exact ⟨rfl, rfl⟩
theorem bit_calls (n : Nat) (i : Int) (j : Nat) (w : World) (hn : n < 18446744073709551616) (hi : i = j) : Calls Tryd.prog 40 #[.int .u64 n, .int .i64 i] w fun e w' => e = .returned (.bool (n.testBit j)) ∧ ∃ m, w' = w.drewN m := by
  have HN := Lib.hid hn
  clear hn
  subst hi
  by_cases h : j < 64
  · obtain ⟨p, hp⟩ : ∃ p : Nat, p = 2 ^ j := ⟨_, rfl⟩
    have hp0 : 0 < p := by rw [hp]; exact Nat.pow_pos (by omega)
    have hp1 : ((p : Int) == 0) = false := by simp; omega
    have hv : ((IntKind.u64.wrap ((n : Int) / (p : Int))).tmod 2 == 1) = n.testBit j := by
      have e : (n : Int) / (p : Int) = ((n / p : Nat) : Int) := rfl
      rw [e, wrap_nat _ (by rw [hp]; exact div_lt n j HN.out), Nat.testBit_eq_decide_div_mod_eq, ← hp]
      generalize n / p = q
      have : ((q : Int)).tmod 2 = ((q % 2 : Nat) : Int) := by rw [Int.tmod_eq_emod_of_nonneg (by omega)]; rfl
      rw [this, Bool.eq_iff_iff]
      simp
      omega
    have HV := Lib.hid hv
    have HP := Lib.hid hp
    clear hp hv
    have t1 : decide ((63 : Int) < (j : Int)) = false := by simp; omega
    go_enter Tryd.func40, Tryd.ntmps40
    go_wp2_with (go_at_call 41; refine (power_calls _ j p _ rfl h HP.out).mono ?_; rintro e w' ⟨rfl, rfl⟩)
    go_ret
    exact ⟨ret_bool HV.out, 0, rfl⟩
  · have hb : n.testBit j = false := tb_hi HN.out (by omega)
    rw [hb]
    clear hb
    have t1 : decide ((63 : Int) < (j : Int)) = true := by simp; omega
    go_enter Tryd.func40, Tryd.ntmps40
    go_wp2
    go_ret
    exact ⟨rfl, 0, rfl⟩
theorem rfield_lo (n : Nat) (low many : Int) (L : Nat) (w : World) (hn : n < 18446744073709551616) (hL : max low 0 = L) (h64 : L < 64) (hc : clampN low = L) :
    Calls Tryd.prog 15 #[.int .u64 n, .int .i64 low, .int .i64 many] w fun e w' => e = .returned (.int .u64 ((fieldN n (clampN low) (clampN many) : Nat) : Int)) ∧ ∃ m, w' = w.drewN m := by
  have HN := Lib.hid hn
  rw [hc]
  have hmm : clampN many ≤ 64 ∧ ((clampN many : Nat) : Int) = min (max many 0) 64 := by unfold clampN; omega
  have HM := Lib.hid hmm
  obtain ⟨K, hK⟩ : ∃ K, K = clampN many := ⟨_, rfl⟩
  rw [← hK] at HM ⊢
  clear hn hmm hK hc
  have hL2 : low < 0 ∧ L = 0 ∨ 0 ≤ low ∧ low = L := by omega
  clear hL
  have HL0 : Hid (low < 0 → L = 0) := Lib.hid (by omega)
  rcases hL2 with ⟨hl, hz⟩ | ⟨hl, rfl⟩
  all_goals
    (try clear hz)
    go_enter Tryd.func15, Tryd.ntmps15
    go_wp2
    go_loopw [7, 8] (fun x i wr => ∃ k m : Nat, k ≤ K ∧ i = .int .i64 k ∧ x = .int .u64 ((fieldN n L k : Nat) : Int) ∧ wr = w.drewN m) (fun _ i _ => K - (intOf i).toNat)
    case atStart => exact ⟨0, 0, Nat.zero_le _, rfl, by simp [fieldN, Nat.mod_one], rfl⟩
    case round =>
      obtain ⟨k, m, hk, rfl, rfl, rfl⟩ := hrel
      have hm := HM.out
      by_cases hlt : k < K
      · have u1 : decide ((k : Int) < many) = true := by simp; omega
        have u2 : decide ((k : Int) < 64) = true := by simp; omega
        have hst := field_step n L k
        have hb1 := field_lt n L (k + 1)
        have hb2 : (2 : Nat) ^ (k + 1) ≤ 2 ^ 64 := Nat.pow_le_pow_right (by omega) (by omega)
        obtain ⟨p, hp⟩ : ∃ p : Nat, p = 2 ^ k := ⟨_, rfl⟩
        rw [← hp] at hst
        have hsum : fieldN n L (k + 1) < 18446744073709551616 := by omega
        generalize hy : fieldN n L (k + 1) = y at *
        have HY := Lib.hid hy
        clear hy
        generalize fieldN n L k = x at *
        have k63 : k < 64 := by omega
        have HP := Lib.hid hp
        clear hp hb1 hb2 hm
        cases hb : n.testBit (L + k)
        · rw [hb] at hst
          simp only [Bool.false_eq_true, if_false, Nat.add_zero] at hst
          subst hst
          have HB := Lib.hid hb
          clear hb hsum
          go_wp2_with (go_at_call 40; refine (bit_calls n _ (L + k) _ HN.out (by first | (have := HL0.out hl; simp; omega) | simp)).mono ?_; rintro e w' ⟨rfl, mb, rfl⟩; rw [HB.out])
          go_roundw
          case rel => exact ⟨k + 1, _, hlt, by go_num, by rw [HY.out], rfl⟩
          case measure => simp [intOf]; omega
        · rw [hb] at hst
          simp only [if_true] at hst
          have hw : IntKind.u64.wrap ((x : Int) + (p : Int)) = (y : Int) := by rw [IntKind.wrap_u64]; omega
          have HB := Lib.hid hb
          clear hb hsum hst
          go_wp2_with (first | (go_at_call 40; refine (bit_calls n _ (L + k) _ HN.out (by first | (have := HL0.out hl; simp; omega) | simp)).mono ?_; rintro e w' ⟨rfl, mb, rfl⟩; rw [HB.out]) | (go_at_call 41; refine (power_calls _ k p _ rfl k63 HP.out).mono ?_; rintro e w' ⟨rfl, rfl⟩))
          go_roundw
          case rel => exact ⟨k + 1, _, hlt, by go_num, by rw [HY.out], rfl⟩
          case measure => simp [intOf]; omega
      · obtain rfl : k = K := by omega
        have u1 : many ≤ 0 ∧ k = 0 ∨ 0 < many ∧ many = k ∨ (k : Int) < many ∧ k = 64 := by omega
        clear hm
        rcases u1 with ⟨u, rfl⟩ | ⟨u, rfl⟩ | ⟨u, rfl⟩
        all_goals
          go_wp2
          go_ret
          exact ⟨rfl, m, rfl⟩
theorem rfield_hi (n : Nat) (low many : Int) (w : World) (h : 64 ≤ low) :
    Calls Tryd.prog 15 #[.int .u64 n, .int .i64 low, .int .i64 many] w fun e w' => e = .returned (.int .u64 0) ∧ ∃ m, w' = w.drewN m := by
  have t1 : decide (low < 64) = false := by simp; omega
  have hm : many ≤ 0 ∨ 0 < many := by omega
  rcases hm with u | u
  all_goals
    go_enter Tryd.func15, Tryd.ntmps15
    go_wp2
    go_loopw [7, 8] (fun x i wr => i = .int .i64 0 ∧ x = .int .u64 0 ∧ wr = w) (fun _ _ _ => 0)
    case atStart => exact ⟨rfl, rfl, rfl⟩
    case round =>
      obtain ⟨rfl, rfl, rfl⟩ := hrel
      go_wp2
      go_ret
      exact ⟨rfl, 0, rfl⟩
theorem rfield_calls (n : Nat) (low many : Int) (w : World) (hn : n < 18446744073709551616) :
    Calls Tryd.prog 15 #[.int .u64 n, .int .i64 low, .int .i64 many] w fun e w' => e = .returned (.int .u64 ((fieldN n (clampN low) (clampN many) : Nat) : Int)) ∧ ∃ m, w' = w.drewN m := by
  rcases Int.lt_or_le low 64 with h | h
  · exact rfield_lo n low many (clampN low) w hn (by unfold clampN; omega) (by unfold clampN; omega) rfl
  · have e : fieldN n (clampN low) (clampN many) = 0 := by
      have : clampN low = 64 := by unfold clampN; omega
      rw [this]; unfold fieldN
      rw [Nat.div_eq_of_lt (by simpa using hn), Nat.zero_mod]
    rw [e]
    exact rfield_hi n low many w h
theorem rwith_lo (n v : Nat) (low many : Int) (L : Nat) (w : World) (hn : n < 18446744073709551616) (hv : v < 18446744073709551616) (hL : max low 0 = L) (h64 : L < 64) (hc : clampN low = L) :
    Calls Tryd.prog 17 #[.int .u64 n, .int .i64 low, .int .i64 many, .int .u64 v] w fun e w' => e = .returned (.int .u64 ((withN n (clampN low) (clampN many) v : Nat) : Int)) ∧ ∃ m, w' = w.drewN m := by
  have HN := Lib.hid hn
  have HV := Lib.hid hv
  rw [hc]
  obtain ⟨K, hK⟩ : ∃ K, K = min (clampN many) (64 - L) := ⟨_, rfl⟩
  have hmm : K ≤ 64 ∧ K + L ≤ 64 ∧ ((K : Nat) : Int) = min (min (max many 0) 64) (64 - L) := by unfold clampN at hK; omega
  have HM := Lib.hid hmm
  have he : withN n L (clampN many) v = withN n L K v := by
    by_cases h : clampN many ≤ 64 - L
    · rw [hK, Nat.min_eq_left h]
    · exact with_over _ _ _ _ _ (by omega) (by omega)
  rw [he]
  clear hn hv hmm hK hc he
  have hL2 : low < 0 ∧ L = 0 ∨ 0 ≤ low ∧ low = L := by omega
  clear hL
  have HL0 : Hid (low < 0 → L = 0) := Lib.hid (by omega)
  rcases hL2 with ⟨hl, hz⟩ | ⟨hl, rfl⟩
  all_goals
    (try clear hz)
    go_enter Tryd.func17, Tryd.ntmps17
    go_wp2
    go_loopw [0, 9] (fun x i wr => ∃ k m : Nat, k ≤ K ∧ i = .int .i64 k ∧ x = .int .u64 ((withN n L k v : Nat) : Int) ∧ wr = w.drewN m) (fun _ i _ => K - (intOf i).toNat)
    case atStart => exact ⟨0, 0, Nat.zero_le _, rfl, by rw [with_zero n L v HN.out], rfl⟩
    case round =>
      obtain ⟨k, m, hk, rfl, rfl, rfl⟩ := hrel
      have hm := HM.out
      by_cases hlt : k < K
      · have u1 : decide ((k : Int) < many) = true := by simp; omega
        have u2 : decide ((k : Int) < 64) = true := by simp; omega
        have hlk : L + k < 64 := by omega
        have hst := with_step n L k v hlk
        have hx := with_lt n L k v
        have hy1 := with_lt n L (k + 1) v
        have hbe : (withN n L k v).testBit (L + k) = n.testBit (L + k) := by rw [tb_with, if_neg (by omega)]; simp [hlk]
        obtain ⟨p, hp⟩ : ∃ p : Nat, p = 2 ^ (L + k) := ⟨_, rfl⟩
        have hge : n.testBit (L + k) = true → p ≤ withN n L k v := fun h => by rw [hp]; exact Nat.ge_two_pow_of_testBit (by rw [hbe]; exact h)
        rw [← hp] at hst
        rw [← hbe] at hst hge
        generalize hy : withN n L (k + 1) v = y at *
        have HY := Lib.hid hy
        clear hy hbe
        generalize withN n L k v = x at *
        have HP := Lib.hid hp
        have HX := Lib.hid hx
        clear hp hm
        cases hb : x.testBit (L + k) <;> cases hbv : v.testBit k
        all_goals
          rw [hb, hbv] at hst
          rw [hb] at hge
          simp only [Bool.false_eq_true, if_false, if_true, Nat.add_zero, Nat.sub_zero, false_implies, true_implies] at hst hge
          have HB := Lib.hid hb
          have HBV := Lib.hid hbv
          have HST := Lib.hid hst
          clear hb hbv hst
          go_wp2_with (first | (go_at_call 40; first | (with_reducible refine (bit_calls v _ k _ HV.out rfl).mono ?_; rintro e w' ⟨rfl, mb, rfl⟩; rw [HBV.out]) | (refine (bit_calls x _ (L + k) _ HX.out (by first | (have := HL0.out hl; simp; omega) | simp)).mono ?_; rintro e w' ⟨rfl, mb, rfl⟩; rw [HB.out])) | (go_at_call 41; refine (power_calls _ (L + k) p _ (by first | (have := HL0.out hl; simp; omega) | simp) hlk HP.out).mono ?_; rintro e w' ⟨rfl, rfl⟩))
          go_roundw
          case rel => exact ⟨k + 1, _, hlt, by go_num, by rw [HY.out]; exact congrArg (Value.int .u64) (by have := HST.out; first | omega | (rw [IntKind.wrap_u64]; omega)), rfl⟩
          case measure => simp [intOf]; omega
      · obtain rfl : k = K := by omega
        have u1 : many ≤ 0 ∧ k = 0 ∨ 0 < many ∧ many = k ∨ (k : Int) < many ∧ k < 64 ∧ ((L : Int) + k = 64) ∨ (k : Int) < many ∧ k = 64 := by omega
        clear hm
        rcases u1 with ⟨u, rfl⟩ | ⟨u, rfl⟩ | ⟨u, u', u3⟩ | ⟨u, rfl⟩
        all_goals first
          | (exfalso; have := HL0.out hl; omega)
          | (go_wp2; go_ret; exact ⟨rfl, m, rfl⟩)
theorem rwith_hi (n v : Nat) (low many : Int) (w : World) (h : 64 ≤ low) :
    Calls Tryd.prog 17 #[.int .u64 n, .int .i64 low, .int .i64 many, .int .u64 v] w fun e w' => e = .returned (.int .u64 n) ∧ ∃ m, w' = w.drewN m := by
  have t1 : decide (low < 64) = false := by simp; omega
  have hm : many ≤ 0 ∨ 0 < many := by omega
  rcases hm with u | u
  all_goals
    go_enter Tryd.func17, Tryd.ntmps17
    go_wp2
    go_loopw [0, 9] (fun x i wr => i = .int .i64 0 ∧ x = .int .u64 n ∧ wr = w) (fun _ _ _ => 0)
    case atStart => exact ⟨rfl, rfl, rfl⟩
    case round =>
      obtain ⟨rfl, rfl, rfl⟩ := hrel
      go_wp2
      go_ret
      exact ⟨rfl, 0, rfl⟩
theorem rwith_calls (n v : Nat) (low many : Int) (w : World) (hn : n < 18446744073709551616) (hv : v < 18446744073709551616) :
    Calls Tryd.prog 17 #[.int .u64 n, .int .i64 low, .int .i64 many, .int .u64 v] w fun e w' => e = .returned (.int .u64 ((withN n (clampN low) (clampN many) v : Nat) : Int)) ∧ ∃ m, w' = w.drewN m := by
  rcases Int.lt_or_le low 64 with h | h
  · exact rwith_lo n v low many (clampN low) w hn hv (by unfold clampN; omega) (by unfold clampN; omega) rfl
  · have e : withN n (clampN low) (clampN many) v = n := by
      have : clampN low = 64 := by unfold clampN; omega
      rw [this, with_over n 64 (clampN many) 0 v (by omega) (by omega), with_zero n 64 v hn]
    rw [e]
    exact rwith_hi n v low many w h
end Go.Proofs.YtkmkficnkiaajaaDoor
