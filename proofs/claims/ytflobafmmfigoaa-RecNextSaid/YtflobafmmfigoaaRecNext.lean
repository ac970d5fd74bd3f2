/- RecNext: THE WALK. -/
import Derived.Test.YtflobafmmfigoaaRecTurned
namespace Go.Proofs.Ytflobafmmfigoaa
open Go Go.RowKit

theorem enc_next (s n nx : Int) (g : Bool) (t : ByteArray) (hok : recOk s g t) :
    (encL s n g t).length = 8 ∧ (encL s nx g t).length = 8 ∧ (∀ k, k < 8 → k ≠ 2 → (encL s n g t).getD k 0 = (encL s nx g t).getD k 0) ∧ (encL s nx g t).getD 2 0 = nx := by
  unfold encL
  rw [if_pos hok, if_pos hok]
  refine ⟨rfl, rfl, fun k hk h2 => ?_, rfl⟩
  rcases k with _ | _ | _ | _ | _ | _ | _ | _ | k <;> first | rfl | omega
set_option maxHeartbeats 1600000 in
theorem recNext_main (s n : Int) (g : Bool) (t : ByteArray) (nx : Int) (w : World) (hs : W64 s) (hn : W64 n) (hx : W64 nx) (h1 : t.size ≤ 200) :
    Calls Try.prog 5 #[.agg #[.int .u64 s, .int .u64 n, .bool g, .string t], .int .u64 nx] w fun e w' => e = .returned (.bool true) ∧ Below w.heap.size w w' := by
  have t1 : decide ((200 : Int) < (t.size : Int)) = false := by simp; omega
  have HS := Lib.hid hs
  have HN := Lib.hid hn
  have HX := Lib.hid hx
  have HLT : Hid (w.heap.size < (w.alloc (.cells #[.int .u64 s, .int .u64 n, .bool g, .string t] 24)).heap.size) := Lib.hid (by simp)
  have HB0 := Lib.hid ((Below.refl w.heap.size w).alloc (Nat.le_refl _) (.cells #[.int .u64 s, .int .u64 n, .bool g, .string t] 24))
  have HR0 : Hid ((w.alloc (.cells #[.int .u64 s, .int .u64 n, .bool g, .string t] 24)).heap[w.heap.size]? = some (.cells #[.int .u64 s, .int .u64 n, .bool g, .string t] 24 (0, 0))) := Lib.hid (heap_alloc_new w _)
  clear hs hn hx
  go_enter Try.func5, Try.ntmps5
  go_wp2_with fail
  refine (ralive_calls _).mono ?_
  rintro e w1 ⟨rfl, hb1⟩
  have HR1 := Lib.hid (blk_later HR0.out hb1)
  have HB1 := Lib.hid (HB0.out.trans (hb1.mono (Nat.le_of_lt HLT.out)))
  have HLT1 : Hid (w.heap.size < w1.heap.size) := Lib.hid (Nat.lt_of_lt_of_le HLT.out hb1.size)
  have ⟨c0, c1, c2, c3⟩ := rec_cells HR1.out
  clear hb1
  go_wp2_with fail
  refine (enc_calls s n g t _ HS.out HN.out).mono ?_
  rintro e w2 ⟨v2, rfl, ho2, hb2⟩
  have hi2 := ho2.ints (Nat.le_trans (encL_len s n g t) (by omega))
  have HO2 := Lib.hid hi2
  have HR2 := Lib.hid (blk_later HR1.out hb2)
  have HB2 := Lib.hid (HB1.out.trans (hb2.mono (Nat.le_of_lt HLT1.out)))
  have HLT2 : Hid (w.heap.size < w2.heap.size) := Lib.hid (Nat.lt_of_lt_of_le HLT1.out hb2.size)
  clear c0 c1 c2 c3 ho2 hi2 hb2
  have ⟨c0, c1, c2, c3⟩ := rec_cells HR2.out
  go_wp2_with fail
  refine (enc_calls s nx g t _ HS.out HX.out).mono ?_
  rintro e w3 ⟨v3, rfl, ho3, hb3⟩
  have hi3 := ho3.ints (Nat.le_trans (encL_len s nx g t) (by omega))
  have HO3 := Lib.hid hi3
  have hb23 := ((Below.refl w2.heap.size w2).alloc (Nat.le_refl _) (.cells #[.int .u64 s, .int .u64 nx, .bool g, .string t] 24)).trans (hb3.mono (by simp))
  have HO23 := Lib.hid (HO2.out.below hb23)
  have HB3 := Lib.hid (HB2.out.trans (hb23.mono (Nat.le_of_lt HLT2.out)))
  clear c0 c1 c2 c3 ho3 hi3 hb3 hb23
  obtain ⟨a2, cc2, rfl⟩ := HO23.out.slice
  obtain ⟨a3, cc3, rfl⟩ := HO3.out.slice
  by_cases hok : recOk s g t
  · obtain ⟨l1, l2, hsame, hnx⟩ := enc_next s n nx g t hok
    rw [decide_eq_true hok]
    have HSM := Lib.hid hsame
    have HNX := Lib.hid hnx
    obtain ⟨b2, o2, rfl, hc2⟩ := HO23.out.cells (by omega)
    obtain ⟨b3, o3, rfl, hc3⟩ := HO3.out.cells (by omega)
    rw [l1] at HO23 hc2 ⊢
    rw [l2] at HO3 hc3 ⊢
    have HC2 := Lib.hid hc2
    have HC3 := Lib.hid hc3
    have hcp2 := HO23.out.cap_le
    have hcp3 := HO3.out.cap_le
    have L1 := Lib.hid l1
    have L2 := Lib.hid l2
    clear hsame hnx hc2 hc3 hok l1 l2
    go_wp2
    go_loopw [42] (fun i wr => ∃ k n : Nat, k ≤ 8 ∧ i = .int .i64 k ∧ wr = w3.drewN n) (fun i _ => 8 - (intOf i).toNat)
    case atStart => exact ⟨0, 0, Nat.zero_le _, rfl, rfl⟩
    case round =>
      obtain ⟨k, m, hk, rfl, rfl⟩ := hrel
      by_cases hlt8 : k < 8
      · have hx := HC2.out k hlt8
        have hy := HC3.out k hlt8
        have kx : (k : Int) < 8 := by omega
        by_cases e : k = 2
        · have u1 : ((k : Int) != 2) = false := by simp; omega
          have u2 : ((k : Int) == 2) = true := by simp; omega
          have hyy : (encL s nx g t).getD k 0 = nx := by rw [e]; exact HNX.out
          rw [hyy] at hy
          have e1 : (nx != nx) = false := by simp
          clear hyy e
          go_wp2
          go_quiet (fail)
          go_wp2
          go_roundw
          case rel => exact ⟨k + 1, m + nq, by omega, by go_num, rfl⟩
          case measure => simp [intOf]; omega
        · have u1 : ((k : Int) != 2) = true := by simp; omega
          have u2 : ((k : Int) == 2) = false := by simp; omega
          rw [← HSM.out k hlt8 e] at hy
          generalize (encL s n g t).getD k 0 = p at hx hy
          have e1 : (p != p) = false := by simp
          clear e
          go_wp2
          go_quiet (fail)
          go_wp2
          go_roundw
          case rel => exact ⟨k + 1, m + nq, by omega, by go_num, rfl⟩
          case measure => simp [intOf]; omega
      · obtain rfl : k = 8 := by omega
        go_wp2
        go_ret
        exact ⟨rfl, below_drewN HB3.out m⟩
  · have l1 : (encL s n g t).length = 0 := by unfold encL; rw [if_neg hok]; rfl
    have l2 : (encL s nx g t).length = 0 := by unfold encL; rw [if_neg hok]; rfl
    rw [decide_eq_false hok, l1, l2]
    clear l1 l2
    go_wp2
    go_loopw [42] (fun i wr => i = .int .i64 0 ∧ wr = w3) (fun _ _ => 0)
    case atStart => exact ⟨rfl, rfl⟩
    case round =>
      obtain ⟨rfl, rfl⟩ := hrel
      go_wp2
      go_ret
      exact ⟨rfl, HB3.out⟩
set_option maxHeartbeats 800000 in
theorem recNext_out (s n : Int) (g : Bool) (t : ByteArray) (nx : Int) (w : World) (h : 200 < t.size) :
    Calls Try.prog 5 #[.agg #[.int .u64 s, .int .u64 n, .bool g, .string t], .int .u64 nx] w fun e w' => e = .returned (.bool true) ∧ Below w.heap.size w w' := by
  have HLT : Hid (w.heap.size < (w.alloc (.cells #[.int .u64 s, .int .u64 n, .bool g, .string t] 24)).heap.size) := Lib.hid (by simp)
  have HB0 := Lib.hid ((Below.refl w.heap.size w).alloc (Nat.le_refl _) (.cells #[.int .u64 s, .int .u64 n, .bool g, .string t] 24))
  have HR0 : Hid ((w.alloc (.cells #[.int .u64 s, .int .u64 n, .bool g, .string t] 24)).heap[w.heap.size]? = some (.cells #[.int .u64 s, .int .u64 n, .bool g, .string t] 24 (0, 0))) := Lib.hid (heap_alloc_new w _)
  have t1 : decide ((200 : Int) < (t.size : Int)) = true := by simp; omega
  go_enter Try.func5, Try.ntmps5
  go_wp2_with (go_at_call 14; refine (ralive_calls _).mono ?_; rintro e w1 ⟨rfl, hb1⟩; have ⟨c0, c1, c2, c3⟩ := rec_cells (blk_later HR0.out hb1))
  go_ret
  exact ⟨rfl, HB0.out.trans (hb1.mono (Nat.le_of_lt HLT.out))⟩
theorem recNext_walk (s n : Int) (g : Bool) (t : ByteArray) (hs : W64 s) (hn : W64 n) (a : Int) (ha : (Lit.int .u64 a).wf = true) {w : World} :
    Calls Try.prog 5 #[.agg #[.int .u64 s, .int .u64 n, .bool g, .string t], .int .u64 a] w fun e w' => e = .returned (.bool true) ∧ Below w.heap.size w w' := by
  by_cases h : t.size ≤ 200
  · exact recNext_main s n g t a w hs hn (bd_u64 ha) h
  · exact recNext_out s n g t a w (by omega)
end Go.Proofs.Ytflobafmmfigoaa
