/- NIBBLES: Pack and Unpack, the program's and the document's. -/
import Derived.Test.YtflobafmmfigoaaNibFns3
namespace Go.Proofs.Ytflobafmmfigoaa
open Go Go.RowKit

def packV (l : List Int) : Value := match packL l with
  | some x => .tuple #[.int .u64 x, .bool true]
  | none => .tuple #[.int .u64 0, .bool false]
theorem packL_no {l : List Int} (h : ¬ (l.length ≤ 15 ∧ ∀ c ∈ l, c < 16)) : packL l = none := by unfold packL; rw [if_neg h]
/-- what Pack has behind k rounds -/
def packTo (l : List Int) (k : Nat) : Int := l.length + 16 * valL (l.take k)
theorem valL_snoc (l : List Int) (k : Nat) (h : k < l.length) : valL (l.take (k + 1)) = valL (l.take k) + 16 ^ k * l.getD k 0 := by
  rw [List.take_succ_eq_append_getElem h, valL_append, List.length_take]
  simp [valL, h, show min k l.length = k from by omega]
theorem packTo_step (l : List Int) (k : Nat) (hl : l.length ≤ 15) (h : k < l.length) (hs : ∀ j, j ≤ k → 0 ≤ l.getD j 0 ∧ l.getD j 0 < 16) :
    bits .or .u64 (packTo l k) (IntKind.u64.wrap (l.getD k 0 * 2 ^ (4 * (k + 1)))) = packTo l (k + 1) := by
  have hsm : small (l.take k) := by
    intro c hc
    obtain ⟨j, hj, rfl⟩ := List.mem_iff_getElem.1 hc
    have hj' : j < k := by simp at hj; omega
    have := hs j (by omega)
    simpa [show j < l.length from by omega] using this
  have hb := valL_bd _ hsm
  rw [List.length_take, show min k l.length = k from by omega] at hb
  unfold packTo
  rw [valL_snoc l k h]
  obtain ⟨x0, x1⟩ := hs k (Nat.le_refl _)
  generalize l.getD k 0 = x at *
  generalize valL (l.take k) = v at *
  have e16 : (16 : Int) ^ k = 2 ^ (4 * k) := by rw [Int.pow_mul]; rfl
  obtain ⟨X, rfl⟩ := Int.eq_ofNat_of_zero_le x0
  obtain ⟨V, rfl⟩ := Int.eq_ofNat_of_zero_le hb.1
  rw [e16] at hb ⊢
  have p1 : ((2 : Int) ^ (4 * k)) = ((2 ^ (4 * k) : Nat) : Int) := by simp
  have p2 : ((2 : Int) ^ (4 * (k + 1))) = ((2 ^ (4 * (k + 1)) : Nat) : Int) := by simp
  rw [p1] at hb ⊢
  rw [p2]
  have p3 : 2 ^ (4 * (k + 1)) = 2 ^ (4 * k) * 16 := by rw [Nat.mul_add, Nat.pow_add]
  have p4 : (2 : Nat) ^ (4 * k) ≤ 2 ^ 56 := Nat.pow_le_pow_right (by omega) (by omega)
  generalize hP : (2 : Nat) ^ (4 * k) = P at *
  rw [p3]
  have e1 : (X : Int) * ((P * 16 : Nat) : Int) = ((X * (P * 16) : Nat) : Int) := (Int.natCast_mul X (P * 16)).symm
  have hX : X * (P * 16) ≤ 15 * (P * 16) := Nat.mul_le_mul_right _ (by omega)
  have hlt : X * (P * 16) < 18446744073709551616 := by omega
  rw [e1, IntKind.wrap_u64, Int.emod_eq_of_lt (by omega) (by omega)]
  have e2 : (l.length : Int) + 16 * (V : Int) = ((l.length + 16 * V : Nat) : Int) := by omega
  rw [e2, u64_or_nat _ _ (by omega) (by omega)]
  have hlow : l.length + 16 * V < 2 ^ (4 * (k + 1)) := by rw [p3]; omega
  have := Nat.two_pow_add_eq_or_of_lt hlow X
  rw [Nat.or_comm, Nat.mul_comm X, ← p3, ← this, p3]
  rw [Int.natCast_add, Int.natCast_mul, Int.natCast_mul]
  have : (P : Int) * 16 * X = 16 * (P * X) := by rw [Int.mul_comm (P : Int) 16, Int.mul_assoc]
  push_cast
  omega
set_option maxHeartbeats 800000 in
theorem pack_calls (v : Value) (l : List Int) (w : World) (hI : Ints .u8 w v l) :
    Calls Try.prog 31 #[v] w fun e w' => e = .returned (packV l) ∧ w = w' := by
  obtain ⟨a, cap, rfl⟩ := hI.slice
  have h1 := hI.2.1
  by_cases hl : l.length ≤ 15
  · have t1 : ¬ (15 : Int) < (l.length : Int) := by omega
    have HBD := Lib.hid hI.bd
    have HI := Lib.hid hI
    clear hI
    go_enter Try.func31, Try.ntmps31
    go_wp2
    go_loop [4, 15] (fun x i => ∃ k : Nat, k ≤ l.length ∧ i = .int .i64 k ∧ x = .int .u64 (packTo l k) ∧ Hid (∀ j, j < k → l.getD j 0 < 16)) (fun _ i => l.length - (intOf i).toNat)
    case atStart =>
      refine ⟨0, Nat.zero_le _, rfl, ?_, Lib.hid (fun j hj => by omega)⟩
      have : packTo l 0 = l.length := by simp [packTo, valL]
      rw [this]
    case round =>
      obtain ⟨k, hk, rfl, rfl, HS⟩ := hrel
      by_cases hlt : k < l.length
      · obtain ⟨b, off, rfl, hcs⟩ := HI.out.cells (by omega)
        have hc := hcs k hlt
        have ⟨x0, x1⟩ := at_bd HBD.out k hlt
        clear hcs
        generalize hx : l.getD k 0 = x at *
        have HX := Lib.hid hx
        clear hx
        by_cases hn : x < 16
        · have hn' : decide (x < 16) = true := by simpa using hn
          have hst : bits .or .u64 (packTo l k) (IntKind.u64.wrap (x * 2 ^ (4 * (k + 1)))) = packTo l (k + 1) := by
            rw [← HX.out]
            refine packTo_step l k hl hlt (fun j hj => ⟨(at_bd HBD.out j (by omega)).1, ?_⟩)
            rcases Nat.lt_or_ge j k with h | h
            · exact HS.out j h
            · obtain rfl : j = k := by omega
              rw [HX.out]; exact hn
          have HST := Lib.hid hst
          clear hst
          have HS2 : Hid (∀ j, j < k + 1 → l.getD j 0 < 16) := Lib.hid (fun j hj => by
            rcases Nat.lt_or_ge j k with h | h
            · exact HS.out j h
            · obtain rfl : j = k := by omega
              rw [HX.out]; exact hn)
          go_wp2_with (go_at_call 36; refine (nibble_calls _ _).mono ?_; rintro e w' ⟨rfl, rfl⟩)
          go_round
          case rel => exact ⟨k + 1, by omega, by go_num, by rw [HST.out], HS2⟩
          case measure => simp [intOf]; omega
        · have hn' : decide (x < 16) = false := by simpa using hn
          have hno : packV l = .tuple #[.int .u64 0, .bool false] := by
            unfold packV
            rw [packL_no (fun h => hn (by rw [← HX.out]; have := h.2 (l.getD k 0) (by simp [hlt]); exact this))]
          have HNO := Lib.hid hno
          clear hno
          go_wp2_with (go_at_call 36; refine (nibble_calls _ _).mono ?_; rintro e w' ⟨rfl, rfl⟩)
          go_ret2
          exact ⟨by rw [HNO.out]; rfl, rfl⟩
      · obtain rfl : k = l.length := by omega
        have hyes : packV l = .tuple #[.int .u64 (packTo l l.length), .bool true] := by
          unfold packV packL
          rw [if_pos ⟨hl, fun c hc => by
            obtain ⟨j, hj, rfl⟩ := List.mem_iff_getElem.1 hc
            have := HS.out j hj
            simpa [hj] using this⟩]
          unfold packTo; rw [List.take_of_length_le (Nat.le_refl _)]
        have HY := Lib.hid hyes
        clear hyes
        go_wp2
        go_ret2
        exact ⟨by rw [HY.out]; rfl, rfl⟩
  · have t1 : (15 : Int) < (l.length : Int) := by omega
    have hno : packV l = .tuple #[.int .u64 0, .bool false] := by
      unfold packV
      rw [packL_no (fun h => hl h.1)]
    have HNO := Lib.hid hno
    clear hno hl hI
    go_enter Try.func31, Try.ntmps31
    go_wp2
    go_ret2
    exact ⟨by rw [HNO.out]; rfl, rfl⟩

theorem valL_drop (l : List Int) (k : Nat) (h : k < l.length) : valL (l.drop k) = l.getD k 0 + 16 * valL (l.drop (k + 1)) := by
  rw [List.drop_eq_getElem_cons h]; simp [valL, h]
set_option maxHeartbeats 800000 in
theorem rpack_calls (v : Value) (l : List Int) (w : World) (hI : Ints .u8 w v l) :
    Calls Try.prog 32 #[v] w fun e w' => e = .returned (packV l) ∧ w = w' := by
  obtain ⟨a, cap, rfl⟩ := hI.slice
  have h1 := hI.2.1
  by_cases hl : l.length ≤ 15
  · have t1 : ¬ (15 : Int) < (l.length : Int) := by omega
    have HBD := Lib.hid hI.bd
    have HI := Lib.hid hI
    clear hI
    go_enter Try.func32, Try.ntmps32
    go_wp2
    go_loop [4, 5] (fun x i => ∃ k : Nat, k ≤ l.length ∧ i = .int .i64 ((k : Int) - 1) ∧ x = .int .u64 (valL (l.drop k)) ∧ Hid (∀ j, k ≤ j → j < l.length → l.getD j 0 < 16)) (fun _ i => (intOf i + 1).toNat)
    case atStart => exact ⟨l.length, Nat.le_refl _, rfl, by rw [List.drop_length]; rfl, Lib.hid (fun j hj hj' => by omega)⟩
    case round =>
      obtain ⟨k, hk, rfl, rfl, HS⟩ := hrel
      have hsm : small (l.drop k) := by
        intro c hc
        obtain ⟨j, hj, rfl⟩ := List.mem_iff_getElem.1 hc
        have hj' : k + j < l.length := by simp at hj; omega
        have h2 := HS.out (k + j) (by omega) hj'
        have h3 := (at_bd HBD.out (k + j) hj').1
        rw [List.getElem_drop]
        simp [hj'] at h2 h3
        exact ⟨h3, h2⟩
      have hvb := valL_bd _ hsm
      have hpw : (16 : Int) ^ (l.drop k).length ≤ 16 ^ 15 := by
        have : (16 : Nat) ^ (l.drop k).length ≤ 16 ^ 15 := Nat.pow_le_pow_right (by omega) (by rw [List.length_drop]; omega)
        have e : ((16 : Int) ^ (l.drop k).length) = ((16 ^ (l.drop k).length : Nat) : Int) := by simp
        rw [e]; omega
      have hvB : 0 ≤ valL (l.drop k) ∧ valL (l.drop k) < 1152921504606846976 := ⟨hvb.1, Int.lt_of_lt_of_le hvb.2 hpw⟩
      have HV := Lib.hid hvB
      clear hsm hvb hpw hvB
      by_cases hlt : 0 < k
      · obtain ⟨b, off, rfl, hcs⟩ := HI.out.cells (by omega)
        have hc := hcs (k - 1) (by omega)
        have ⟨x0, x1⟩ := at_bd HBD.out (k - 1) (by omega)
        have HD := Lib.hid (valL_drop l (k - 1) (by omega))
        have t2 : (0 : Int) ≤ (k : Int) - 1 := by omega
        have t3 : (1 : Int) ≤ (k : Int) := by omega
        have t4 : ((k : Int) - 1).toNat = k - 1 := by omega
        clear hcs
        generalize hx : l.getD (k - 1) 0 = x at *
        have HX := Lib.hid hx
        clear hx
        by_cases hn : x < 16
        · have hd : valL (l.drop (k - 1)) = valL (l.drop k) * 16 + x := by
            have := HD.out
            rw [show k - 1 + 1 = k from by omega] at this
            omega
          have HDD := Lib.hid hd
          have HS2 : Hid (∀ j, k - 1 ≤ j → j < l.length → l.getD j 0 < 16) := Lib.hid (fun j hj hj' => by
            rcases Nat.lt_or_ge j k with h | h
            · obtain rfl : j = k - 1 := by omega
              rw [HX.out]; exact hn
            · exact HS.out j h hj')
          have w1 : IntKind.u64.wrap (valL (l.drop k) * 16) = valL (l.drop k) * 16 := by
            have := HV.out; rw [IntKind.wrap_u64]; exact Int.emod_eq_of_lt (by omega) (by omega)
          have w2 : IntKind.u64.wrap (valL (l.drop k) * 16 + x) = valL (l.drop k) * 16 + x := by
            have := HV.out; rw [IntKind.wrap_u64]; exact Int.emod_eq_of_lt (by omega) (by omega)
          clear hd
          go_wp2
          go_round
          case rel =>
            refine ⟨k - 1, by omega, ?_, by rw [HDD.out], HS2⟩
            congr 1; omega
          case measure => simp [intOf]; omega
        · have hno : packV l = .tuple #[.int .u64 0, .bool false] := by
            unfold packV
            rw [packL_no (fun h => hn (by rw [← HX.out]; have := h.2 (l.getD (k - 1) 0) (by simp [show k - 1 < l.length from by omega]); exact this))]
          have HNO := Lib.hid hno
          have t5 : 15 < x := by omega
          clear hno
          go_wp2
          go_ret2
          exact ⟨by rw [HNO.out]; rfl, rfl⟩
      · obtain rfl : k = 0 := by omega
        rw [List.drop_zero] at HV
        have hyes : packV l = .tuple #[.int .u64 (valL l * 16 + l.length), .bool true] := by
          unfold packV packL
          rw [if_pos ⟨hl, fun c hc => by
            obtain ⟨j, hj, rfl⟩ := List.mem_iff_getElem.1 hc
            have := HS.out j (Nat.zero_le _) hj
            simpa [hj] using this⟩]
          simp only
          congr 3
          rw [show (l.length : Int) + 16 * valL l = valL l * 16 + l.length from by omega]
        have HY := Lib.hid hyes
        have w1 : IntKind.u64.wrap (valL l * 16) = valL l * 16 := by
          have := HV.out; rw [IntKind.wrap_u64]; exact Int.emod_eq_of_lt (by omega) (by omega)
        have w2 : IntKind.u64.wrap (valL l * 16 + l.length) = valL l * 16 + l.length := by
          have := HV.out; rw [IntKind.wrap_u64]; exact Int.emod_eq_of_lt (by omega) (by omega)
        clear hyes
        rw [List.drop_zero]
        go_wp2
        go_ret2
        exact ⟨by rw [HY.out]; rfl, rfl⟩
  · have t1 : (15 : Int) < (l.length : Int) := by omega
    have hno : packV l = .tuple #[.int .u64 0, .bool false] := by
      unfold packV
      rw [packL_no (fun h => hl h.1)]
    have HNO := Lib.hid hno
    clear hno hl hI
    go_enter Try.func32, Try.ntmps32
    go_wp2
    go_ret2
    exact ⟨by rw [HNO.out]; rfl, rfl⟩
end Go.Proofs.Ytflobafmmfigoaa
