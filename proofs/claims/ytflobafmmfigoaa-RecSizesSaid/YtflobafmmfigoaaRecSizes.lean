/- RecSizes: THE WALK. -/
import Derived.Test.YtflobafmmfigoaaRecTurned
namespace Go.Proofs.Ytflobafmmfigoaa
open Go Go.RowKit

theorem recF_div (g : Bool) (t : ByteArray) : recF g t / 65536 = (t.size : Int) := by
  unfold recF
  split <;> omega
theorem recF_bit (g : Bool) (t : ByteArray) (h : t.size ≤ 40) (h2 : g = true → t.size = 0) : (bits .and .u64 (recF g t / 256) 1 == 1) = g := by
  have hb : 0 ≤ recF g t / 256 ∧ recF g t / 256 < 18446744073709551616 := by unfold recF; split <;> omega
  rw [u64_and _ 1 hb.1 hb.2 (by omega) (by omega)]
  have e : ((recF g t / 256).toNat &&& (1 : Int).toNat) = (recF g t / 256).toNat % 2 := Nat.and_two_pow_sub_one_eq_mod _ 1
  rw [e]
  cases g
  · have : (recF false t / 256).toNat % 2 = 0 := by unfold recF; simp; omega
    rw [this]; rfl
  · have : (recF true t / 256).toNat % 2 = 1 := by unfold recF; rw [h2 rfl]; rfl
    rw [this]; rfl
theorem wl_byte (s n : Int) (g : Bool) (t : ByteArray) (k : Nat) (hk : k < 40) :
    IntKind.u8.wrap ((wl (recF g t) s n (bytesOf t)).getD (3 + k / 8) 0 / 2 ^ (8 * (k % 8))) = (bytesOf t).getD k 0 := by
  rw [wl_at _ _ _ _ _ (by omega), byte_of _ _ (wd_bd (bytesOf_bd t) _), wd_at (bytesOf_bd t)]
set_option maxHeartbeats 1600000 in
theorem recSizes_main (s n : Int) (g : Bool) (t : ByteArray) (w : World) (hs : W64 s) (hn : W64 n) (h1 : t.size ≤ 200) :
    Calls Try.prog 6 #[.agg #[.int .u64 s, .int .u64 n, .bool g, .string t]] w fun e w' => e = .returned (.bool true) ∧ Below w.heap.size w w' := by
  have t1 : decide ((200 : Int) < (t.size : Int)) = false := by simp; omega
  have HS := Lib.hid hs
  have HN := Lib.hid hn
  have HLT : Hid (w.heap.size < (w.alloc (.cells #[.int .u64 s, .int .u64 n, .bool g, .string t] 24)).heap.size) := Lib.hid (by simp)
  have HB0 := Lib.hid ((Below.refl w.heap.size w).alloc (Nat.le_refl _) (.cells #[.int .u64 s, .int .u64 n, .bool g, .string t] 24))
  have HR0 : Hid ((w.alloc (.cells #[.int .u64 s, .int .u64 n, .bool g, .string t] 24)).heap[w.heap.size]? = some (.cells #[.int .u64 s, .int .u64 n, .bool g, .string t] 24 (0, 0))) := Lib.hid (heap_alloc_new w _)
  clear hs hn
  go_enter Try.func6, Try.ntmps6
  go_wp2_with fail
  refine (ralive_calls _).mono ?_
  rintro e w1 ⟨rfl, hb1⟩
  have HR1 := Lib.hid (blk_later HR0.out hb1)
  have HB1 := Lib.hid (HB0.out.trans (hb1.mono (Nat.le_of_lt HLT.out)))
  have HLT1 : Hid (w.heap.size < w1.heap.size) := Lib.hid (Nat.lt_of_lt_of_le HLT.out hb1.size)
  have ⟨c0, c1, c2, c3⟩ := rec_cells HR1.out
  clear hb1
  go_wp2_with fail
  refine (enc_calls s n g t _ HS.out HN.out).mono ?_
  rintro e w2 ⟨v2, rfl, ho2, hb2⟩
  have hi2 := ho2.ints (Nat.le_trans (encL_len s n g t) (by omega))
  have HO2 := Lib.hid hi2
  have HR2 := Lib.hid (blk_later HR1.out hb2)
  have HB2 := Lib.hid (HB1.out.trans (hb2.mono (Nat.le_of_lt HLT1.out)))
  have HLT2 : Hid (w.heap.size < w2.heap.size) := Lib.hid (Nat.lt_of_lt_of_le HLT1.out hb2.size)
  clear c0 c1 c2 c3 ho2 hi2 hb2
  have ⟨c0, c1, c2, c3⟩ := rec_cells HR2.out
  obtain ⟨a2, cc2, rfl⟩ := HO2.out.slice
  by_cases hok : recOk s g t
  · rw [decide_eq_true hok]
    have he : encL s n g t = wl (recF g t) s n (bytesOf t) := by unfold encL; rw [if_pos hok]
    rw [he] at HO2 ⊢
    obtain ⟨b2, o2, rfl, hc2⟩ := HO2.out.cells (by rw [wl_length]; omega)
    rw [wl_length] at HO2 hc2 ⊢
    have r0 : w2.cell? ⟨b2, o2, none⟩ = some (.int .u64 (recF g t)) := hc2 0 (by omega)
    have r1 : w2.cell? ⟨b2, o2 + 1, none⟩ = some (.int .u64 s) := hc2 1 (by omega)
    have r2 : w2.cell? ⟨b2, o2 + 2, none⟩ = some (.int .u64 n) := hc2 2 (by omega)
    have hcp2 := HO2.out.cap_le
    have HC2 := Lib.hid hc2
    have h40 := hok.2.1
    have hdiv := recF_div g t
    have hbit := recF_bit g t hok.2.1 hok.2.2
    have hF : 0 ≤ recF g t ∧ recF g t ≤ 2700000 := by unfold recF; split <;> omega
    have HBY : Hid (∀ k, k < 40 → IntKind.u8.wrap ((wl (recF g t) s n (bytesOf t)).getD (3 + k / 8) 0 / 2 ^ (8 * (k % 8))) = (bytesOf t).getD k 0) := Lib.hid (fun k hk => wl_byte s n g t k hk)
    have HBD : Hid (∀ j, j < 8 → W64 ((wl (recF g t) s n (bytesOf t)).getD j 0)) := Lib.hid (fun j hj => by
      have : (wl (recF g t) s n (bytesOf t)).getD j 0 = (wl (recF g t) s n (bytesOf t))[j]'(by rw [wl_length]; exact hj)   := by rw [List.getD_eq_getElem?_getD, List.getElem?_eq_getElem (by rw [wl_length]; exact hj)]; rfl
      rw [this]; exact bd_u64 (HO2.out.1 _ (List.getElem_mem _)))
    clear hc2 hok he
    generalize wl (recF g t) s n (bytesOf t) = L at *
    generalize recF g t = f at *
    go_wp2
    go_quiet (fail)
    go_wp2
    have HBW : Hid (∀ n, Below w.heap.size w (w2.drewN n)) := Lib.hid (fun n => below_drewN HB2.out n)
    clear r0 r1 r2 hdiv hbit hF
    go_loopw [69] (fun i wr => ∃ k n : Nat, k ≤ 40 ∧ i = .int .i64 k ∧ wr = w2.drewN n) (fun i _ => 40 - (intOf i).toNat)
    case atStart => exact ⟨0, _, Nat.zero_le _, rfl, rfl⟩
    case round =>
      obtain ⟨k, m, hk, rfl, rfl⟩ := hrel
      by_cases hlt : k < 40
      · have hx := HC2.out (3 + k / 8) (by omega)
        have hb := HBY.out k hlt
        have kx : (k : Int) < 40 := by omega
        have hW := HBD.out (3 + k / 8) (by omega)
        generalize L.getD (3 + k / 8) 0 = y at hx hb hW
        by_cases ht : k < t.size
        · have hc : (bytesOf t).getD k 0 = (t[k].toNat : Int) := by simp [bytesOf, ht]; rfl
          rw [hc] at hb
          have u1 : decide ((k : Int) < (t.size : Int)) = true := by simp; omega
          clear hc
          go_wp2
          go_roundw
          case rel => exact ⟨k + 1, m, by omega, by go_num, rfl⟩
          case measure => simp [intOf]; omega
        · have hc : (bytesOf t).getD k 0 = 0 := by simp [bytesOf, ht]
          rw [hc] at hb
          have u1 : decide ((k : Int) < (t.size : Int)) = false := by simp; omega
          have u2 : decide ((t.size : Int) ≤ (k : Int)) = true := by simp; omega
          clear hc
          go_wp2
          go_roundw
          case rel => exact ⟨k + 1, m, by omega, by go_num, rfl⟩
          case measure => simp [intOf]; omega
      · obtain rfl : k = 40 := by omega
        go_wp2
        go_ret
        exact ⟨rfl, HBW.out _⟩
  · rw [decide_eq_false hok]
    have l1 : (encL s n g t).length = 0 := by unfold encL; rw [if_neg hok]; rfl
    rw [l1]
    clear l1
    go_wp2_with (go_at_call 19; (with_reducible refine (right_calls s n g t _).mono ?_); rintro e w3 ⟨rfl, hb3⟩; rw [decide_eq_false hok]; have HB3 := Lib.hid (HB2.out.trans (hb3.mono (Nat.le_of_lt HLT2.out))); clear hb3)
    go_ret
    exact ⟨rfl, HB3.out⟩
set_option maxHeartbeats 800000 in
theorem recSizes_out (s n : Int) (g : Bool) (t : ByteArray) (w : World) (h : 200 < t.size) :
    Calls Try.prog 6 #[.agg #[.int .u64 s, .int .u64 n, .bool g, .string t]] w fun e w' => e = .returned (.bool true) ∧ Below w.heap.size w w' := by
  have HLT : Hid (w.heap.size < (w.alloc (.cells #[.int .u64 s, .int .u64 n, .bool g, .string t] 24)).heap.size) := Lib.hid (by simp)
  have HB0 := Lib.hid ((Below.refl w.heap.size w).alloc (Nat.le_refl _) (.cells #[.int .u64 s, .int .u64 n, .bool g, .string t] 24))
  have HR0 : Hid ((w.alloc (.cells #[.int .u64 s, .int .u64 n, .bool g, .string t] 24)).heap[w.heap.size]? = some (.cells #[.int .u64 s, .int .u64 n, .bool g, .string t] 24 (0, 0))) := Lib.hid (heap_alloc_new w _)
  have t1 : decide ((200 : Int) < (t.size : Int)) = true := by simp; omega
  go_enter Try.func6, Try.ntmps6
  go_wp2_with (go_at_call 14; refine (ralive_calls _).mono ?_; rintro e w1 ⟨rfl, hb1⟩; have ⟨c0, c1, c2, c3⟩ := rec_cells (blk_later HR0.out hb1))
  go_ret
  exact ⟨rfl, HB0.out.trans (hb1.mono (Nat.le_of_lt HLT.out))⟩
theorem recSizes_walk (s n : Int) (g : Bool) (t : ByteArray) (hs : W64 s) (hn : W64 n) {w : World} :
    Calls Try.prog 6 #[.agg #[.int .u64 s, .int .u64 n, .bool g, .string t]] w fun e w' => e = .returned (.bool true) ∧ Below w.heap.size w w' := by
  by_cases h : t.size ≤ 200
  · exact recSizes_main s n g t w hs hn h
  · exact recSizes_out s n g t w (by omega)
end Go.Proofs.Ytflobafmmfigoaa
