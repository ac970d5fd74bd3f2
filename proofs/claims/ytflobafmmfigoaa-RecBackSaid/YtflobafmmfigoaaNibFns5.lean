/- NIBBLES: Unpack, the program's and the document's. -/
import Derived.Test.YtflobafmmfigoaaNibFns4
namespace Go.Proofs.Ytflobafmmfigoaa
open Go Go.RowKit

theorem and15_u64 (x : Int) (h : W64 x) : bits .and .u64 x 15 = x % 16 := by
  unfold W64 at h
  rw [u64_and x 15 h.1 (by omega) (by omega) (by omega)]
  have : x.toNat &&& (15 : Int).toNat = x.toNat % 16 := Nat.and_two_pow_sub_one_eq_mod x.toNat 4
  rw [this]; omega
theorem W64.div {x : Int} (h : W64 x) (n : Nat) (_hn : 0 < n) : W64 (x / (n : Int)) := by
  unfold W64 at *
  obtain ⟨X, rfl⟩ := Int.eq_ofNat_of_zero_le h.1
  have := Nat.div_le_self X n
  have e : ((X : Int) / (n : Int)) = ((X / n : Nat) : Int) := by simp
  rw [e]
  exact ⟨Int.natCast_nonneg _, Int.lt_of_le_of_lt (Int.ofNat_le.2 this) h.2⟩
theorem u64_quo {y : Int} (h : W64 y) : IntKind.u64.wrap (y.tdiv 16) = y / 16 := by
  unfold W64 at h
  rw [IntKind.wrap_u64, Int.tdiv_eq_ediv_of_nonneg h.1]; omega
theorem W64.shift {x : Int} (h : W64 x) (k : Nat) : W64 (x / 16 ^ k) := by
  have e : (16 : Int) ^ k = ((16 ^ k : Nat) : Int) := by simp
  rw [e]; exact h.div _ (Nat.pow_pos (by omega))
/-- the end of a number behind its nibbles -/
theorem unpackL_some {x : Int} (_h0 : 0 ≤ x) : x / 16 / 16 ^ (x % 16).toNat = 0 → unpackL x = some (digL (x / 16) (x % 16).toNat) := by
  intro h
  unfold unpackL
  have hp : (0 : Int) < 16 ^ (x % 16).toNat := Int.pow_pos (by omega)
  rw [if_pos]
  rcases Int.lt_or_le (x / 16) (16 ^ (x % 16).toNat) with h' | h'
  · exact h'
  · have := Int.le_ediv_of_mul_le hp (show 1 * 16 ^ (x % 16).toNat ≤ x / 16 by omega)
    omega
theorem unpackL_none {x : Int} (h0 : 0 ≤ x) : ¬ x / 16 / 16 ^ (x % 16).toNat = 0 → unpackL x = none := by
  intro h
  unfold unpackL
  rw [if_neg]
  intro h'
  exact h (Int.ediv_eq_zero_of_lt (by omega) h')

set_option maxHeartbeats 800000 in
theorem unpack_calls (x : Int) (w : World) (hx : W64 x) :
    Calls Try.prog 33 #[.int .u64 x] w fun e w' => Below w.heap.size w w' ∧ ((unpackL x = none ∧ e = .returned (.tuple #[.slice none 0 0, .bool false])) ∨ ∃ v, unpackL x = some (digL (x / 16) (x % 16).toNat) ∧ e = .returned (.tuple #[v, .bool true]) ∧ Own .u8 5 w' w.heap.size v (digL (x / 16) (x % 16).toNat)) := by
  obtain ⟨i0, hi0, hz0, hz1, hz2⟩ := info_parts info5
  have hx0 : 0 ≤ x := hx.1
  have hn0 : (0 : Int) ≤ x % 16 := by omega
  have hn1 : x % 16 < 16 := by omega
  have ha := and15_u64 x hx
  obtain ⟨n, hn⟩ : ∃ n : Nat, x % 16 = (n : Int) := ⟨(x % 16).toNat, by omega⟩
  have HA : Hid (bits .and .u64 x 15 = (n : Int)) := Lib.hid (by rw [ha, hn])
  have HN := Lib.hid hn
  have HW := Lib.hid hx
  have hnn : n < 16 := by omega
  have HX0 := Lib.hid hx0
  clear ha hn hx hn0 hn1
  have HS : Hid (unpackL x = none ∨ unpackL x = some (digL (x / 16) (x % 16).toNat)) := by
    by_cases h : x / 16 / 16 ^ (x % 16).toNat = 0
    · exact .inr (unpackL_some HX0.out h)
    · exact .inl (unpackL_none HX0.out h)
  go_enter Try.func33, Try.ntmps33
  have ha := HA.out
  go_wp2
  clear ha
  go_loopw [0, 4, 5] (fun y v m wr => ∃ k : Nat, k ≤ n ∧ y = .int .u64 (x / 16 / 16 ^ k) ∧ m = .int .u64 ((n : Int) - k) ∧ Own .u8 5 wr w.heap.size v (digL (x / 16) k) ∧ Below w.heap.size w wr) (fun _ _ m _ => (intOf m).toNat)
  case atStart => exact ⟨0, Nat.zero_le _, by simp, by simp, Own.nil_ _ _ _ _, Below.refl _ _⟩
  case round =>
    obtain ⟨k, hk, rfl, rfl, hown, hbw⟩ := hrel
    obtain ⟨A, c, rfl⟩ := hown.slice
    have hlk := digL_length k (x / 16)
    have HOWN := Lib.hid hown
    have HSN := Lib.hid (digL_snoc k (x / 16) (by have := HX0.out; omega))
    have hW : W64 (x / 16 / 16 ^ k) := (HW.out.div 16 (by omega)).shift k
    have hy0 : 0 ≤ x / 16 / 16 ^ k := hW.1
    have hsucc : x / 16 / 16 ^ (k + 1) = x / 16 / 16 ^ k / 16 := by rw [Int.pow_succ, Int.ediv_ediv_of_nonneg (Int.le_of_lt (Int.pow_pos (by omega)))]
    have HSU := Lib.hid hsucc
    have ha := and15_u64 _ hW
    clear hown hW hsucc
    generalize hy : x / 16 / 16 ^ k = y at *
    have HY := Lib.hid hy
    clear hy
    by_cases hlt : k < n
    · have t1 : (0 : Int) < (n : Int) - k := by omega
      have t2 : IntKind.u64.wrap ((n : Int) - k - 1) = (n : Int) - k - 1 := by rw [IntKind.wrap_u64]; exact Int.emod_eq_of_lt (by omega) (by omega)
      have HRD := Lib.hid (reads_new .u8 wr 5 [y % 16])
      have hlk' : (digL (x / 16) k).length = k := hlk
      go_wp2_with (at_builtin; refine wpList_append_own_at (wr.alloc (.cells #[.int .u8 (y % 16)] 5)) rfl (.tmp 14) (.tmp 18) 43 rfl w.heap.size 5 i0 _ 1 1 Try.underlying43 hi0 hz0 hz1 hz2 rfl (by omega) _ _ _ rfl (HOWN.out.1.alloc _) ⟨wr.heap.size, 0, none⟩ 1 1 ([y % 16].map (Value.int .u8)) rfl rfl (news_of .u8 wr 5 [y % 16]) (one_cells _ _) ?c1 ?c2 ?c3 ?_; (case c1 => (simp only [maxLen]; omega)); (case c2 => omega); (case c3 => (have := hbw.size; simp; omega)); intro v2 w2 hown2 hg2 _ hat2)
      have hb1 : Below w.heap.size w (wr.alloc (.cells #[.int .u8 (y % 16)] 5)) := hbw.alloc hbw.size _
      have hb2 : Below w.heap.size w w2 := below_own hb1 (HOWN.out.1.alloc _) hb1.size hg2
      go_roundw
      case rel =>
        refine ⟨k + 1, by omega, by rw [HSU.out], by congr 1; omega, ⟨?_, fun c hc => wf_u8 (by have := digL_small _ _ c hc; omega)⟩, hb2⟩
        rw [HSN.out, List.length_append, List.map_append]; exact hown2
      case measure => simp [intOf]; omega
    · obtain rfl : k = n := by omega
      have t1 : (k : Int) - k = 0 := by omega
      have hnat : (x % 16).toNat = k := by rw [HN.out]; omega
      have HNAT := Lib.hid hnat
      clear hnat
      by_cases hz : y = 0
      · subst hz
        have hu : unpackL x = some (digL (x / 16) (x % 16).toNat) := unpackL_some HX0.out (by rw [HNAT.out]; exact HY.out)
        have HU := Lib.hid hu
        clear hu
        go_wp2
        go_ret2
        refine ⟨hbw, .inr ⟨_, HU.out, rfl, ?_⟩⟩
        rw [HNAT.out]; exact HOWN.out
      · have hu : unpackL x = none := unpackL_none HX0.out (by rw [HNAT.out, HY.out]; exact hz)
        have HU := Lib.hid hu
        have hz' : (y != 0) = true := by simpa using hz
        clear hu
        go_wp2
        go_ret2
        exact ⟨hbw, .inl ⟨HU.out, rfl⟩⟩

set_option maxHeartbeats 800000 in
theorem runpack_calls (x : Int) (w : World) (hx : W64 x) :
    Calls Try.prog 34 #[.int .u64 x] w fun e w' => Below w.heap.size w w' ∧ ((unpackL x = none ∧ e = .returned (.tuple #[.slice none 0 0, .bool false])) ∨ ∃ v, unpackL x = some (digL (x / 16) (x % 16).toNat) ∧ e = .returned (.tuple #[v, .bool true]) ∧ Own .u8 5 w' w.heap.size v (digL (x / 16) (x % 16).toNat)) := by
  obtain ⟨i0, hi0, hz0, hz1, hz2⟩ := info_parts info5
  have hx0 : 0 ≤ x := hx.1
  obtain ⟨n, hn⟩ : ∃ n : Nat, x % 16 = (n : Int) := ⟨(x % 16).toNat, by omega⟩
  have HN := Lib.hid hn
  have HW := Lib.hid hx
  have hnn : n < 16 := by omega
  have hmod : x.tmod 16 = (n : Int) := by rw [Int.tmod_eq_emod_of_nonneg hx0]; exact hn
  have HX0 := Lib.hid hx0
  have hq := u64_quo hx
  clear hx hn
  go_enter Try.func34, Try.ntmps34
  go_wp2
  go_loopw [4, 5, 6] (fun v y m wr => ∃ k : Nat, k ≤ n ∧ y = .int .u64 (x / 16 / 16 ^ k) ∧ m = .int .u64 (k : Int) ∧ Own .u8 5 wr w.heap.size v (digL (x / 16) k) ∧ Below w.heap.size w wr) (fun _ _ m _ => n - (intOf m).toNat)
  case atStart => exact ⟨0, Nat.zero_le _, by simp, by simp, Own.nil_ _ _ _ _, Below.refl _ _⟩
  case round =>
    obtain ⟨k, hk, rfl, rfl, hown, hbw⟩ := hrel
    obtain ⟨A, c, rfl⟩ := hown.slice
    have hlk := digL_length k (x / 16)
    have HOWN := Lib.hid hown
    have HSN := Lib.hid (digL_snoc k (x / 16) (by have := HX0.out; omega))
    have hW : W64 (x / 16 / 16 ^ k) := (HW.out.div 16 (by omega)).shift k
    have hy0 : 0 ≤ x / 16 / 16 ^ k := hW.1
    have hsucc : x / 16 / 16 ^ (k + 1) = x / 16 / 16 ^ k / 16 := by rw [Int.pow_succ, Int.ediv_ediv_of_nonneg (Int.le_of_lt (Int.pow_pos (by omega)))]
    have HSU := Lib.hid hsucc
    have hqy := u64_quo hW
    clear hown hW hsucc
    generalize hy : x / 16 / 16 ^ k = y at *
    have HY := Lib.hid hy
    clear hy
    by_cases hlt : k < n
    · have t1 : (k : Int) < x % 16 := by have := HN.out; omega
      have t2 : IntKind.u64.wrap ((k : Int) + 1) = (k : Int) + 1 := by rw [IntKind.wrap_u64]; exact Int.emod_eq_of_lt (by omega) (by omega)
      go_wp2_with (at_builtin; refine wpList_append_own_at (wr.alloc (.cells #[.int .u8 (y % 16)] 5)) rfl (.tmp 17) (.tmp 21) 43 rfl w.heap.size 5 i0 _ 1 1 Try.underlying43 hi0 hz0 hz1 hz2 rfl (by omega) _ _ _ rfl (HOWN.out.1.alloc _) ⟨wr.heap.size, 0, none⟩ 1 1 ([y % 16].map (Value.int .u8)) rfl rfl (news_of .u8 wr 5 [y % 16]) (one_cells _ _) ?c1 ?c2 ?c3 ?_; (case c1 => (simp only [maxLen]; omega)); (case c2 => omega); (case c3 => (have := hbw.size; simp; omega)); intro v2 w2 hown2 hg2 _ hat2)
      have hb1 : Below w.heap.size w (wr.alloc (.cells #[.int .u8 (y % 16)] 5)) := hbw.alloc hbw.size _
      have hb2 : Below w.heap.size w w2 := below_own hb1 (HOWN.out.1.alloc _) hb1.size hg2
      go_roundw
      case rel =>
        refine ⟨k + 1, by omega, by rw [HSU.out], by congr 1, ⟨?_, fun c hc => wf_u8 (by have := digL_small _ _ c hc; omega)⟩, hb2⟩
        rw [HSN.out, List.length_append, List.map_append]; exact hown2
      case measure => simp [intOf]; omega
    · obtain rfl : k = n := by omega
      have hnat : (x % 16).toNat = k := by have := HN.out; omega
      have HNAT := Lib.hid hnat
      have hI := HOWN.out.ints (by omega)
      have HP := Lib.hid (rpack_calls _ _ wr hI)
      have hpk : packV (digL (x / 16) k) = .tuple #[.int .u64 (k + 16 * (x / 16 % 16 ^ k)), .bool true] := by
        unfold packV packL
        rw [if_pos ⟨by omega, fun c hc => (digL_small _ _ c hc).2⟩, hlk, digL_val _ _ (by have := HX0.out; omega)]
      rw [hpk, hlk] at HP
      have hdm : (k : Int) + 16 * (x / 16 % 16 ^ k) = x ↔ y = 0 := by
        rw [← HY.out]
        have hp : (0 : Int) < 16 ^ k := Int.pow_pos (by omega)
        have e1 := Int.emod_add_mul_ediv (x / 16) (16 ^ k)
        have e2 := HN.out
        have e3 := Int.emod_nonneg (x / 16) (b := 16 ^ k) (by omega)
        have e4 := Int.emod_lt_of_pos (x / 16) hp
        have e5 := HX0.out
        constructor
        · intro h
          have : x / 16 % 16 ^ k = x / 16 := by omega
          refine Int.ediv_eq_zero_of_lt (by omega) ?_
          rw [← this]; exact e4
        · intro h
          rw [h] at e1
          omega
      have HDM := Lib.hid hdm
      have HO2 : Hid (Own .u8 5 wr w.heap.size (.slice A k c) (digL (x / 16) k)) := by have := HOWN.out; rw [hlk] at this; exact Lib.hid this
      have t1 : ¬ (k : Int) < x % 16 := by have := HN.out; omega
      clear hnat hI hpk hdm hq hqy hmod
      generalize (k : Int) + 16 * (x / 16 % 16 ^ k) = z at *
      by_cases hz : y = 0
      · have hu : unpackL x = some (digL (x / 16) (x % 16).toNat) := unpackL_some HX0.out (by rw [HNAT.out]; rw [HY.out]; exact hz)
        have HU := Lib.hid hu
        have hzx : (z != x) = false := by rw [bne_eq_false_iff_eq]; exact HDM.out.2 hz
        clear hu hz
        go_wp2_with (go_at_call 32; refine HP.out.mono ?_; rintro e w' ⟨rfl, rfl⟩)
        go_ret2
        refine ⟨hbw, .inr ⟨_, HU.out, rfl, ?_⟩⟩
        rw [HNAT.out]; exact HO2.out
      · have hu : unpackL x = none := unpackL_none HX0.out (by rw [HNAT.out, HY.out]; exact hz)
        have HU := Lib.hid hu
        have hzx : (z != x) = true := by rw [bne_iff_ne]; exact fun h => hz (HDM.out.1 h)
        clear hu hz
        go_wp2_with (go_at_call 32; refine HP.out.mono ?_; rintro e w' ⟨rfl, rfl⟩)
        go_ret2
        exact ⟨hbw, .inl ⟨HU.out, rfl⟩⟩
end Go.Proofs.Ytflobafmmfigoaa
