/- NibOrder: THE WALK. -/
import Derived.Test.YtflobafmmfigoaaNibBack
namespace Go.Proofs.Ytflobafmmfigoaa
open Go Go.RowKit

theorem bytes_at (s : ByteArray) (k : Nat) (h : k < s.size) : ((s[k]'h).toNat : Int) = (bytesOf s).getD k 0 := by
  have hj' : k < s.data.toList.length := by simpa using h
  unfold bytesOf
  rw [List.getD_eq_getElem?_getD, List.getElem?_map, List.getElem?_eq_getElem hj']
  rfl
theorem str_less (a b : ByteArray) : Op.bytesLess a.toList b.toList = lessN (bytesOf a) (bytesOf b) := by
  rw [← lessL_eq _ _ (bytesOf_bd a) (bytesOf_bd b)]
  unfold lessL
  rw [strOf_bytes, strOf_bytes]

set_option maxHeartbeats 1600000 in
theorem nibOrder_main (a b : ByteArray) (w : World) (h1 : a.size ≤ 500) (h2 : b.size ≤ 500) :
    Calls Try.prog 11 #[.string a, .string b] w fun e w' => e = .returned (.bool true) ∧ Below w.heap.size w w' := by
  have t1 : decide ((500 : Int) < (a.size : Int)) = false := by simp; omega
  have t2 : decide ((500 : Int) < (b.size : Int)) = false := by simp; omega
  have hka : a.size ≤ 100000 := by omega
  have hkb : b.size ≤ 100000 := by omega
  have hla : (ofL (bytesOf a)).length = 2 * a.size := by rw [ofL_length, bytesOf_length]
  have hlb : (ofL (bytesOf b)).length = 2 * b.size := by rw [ofL_length, bytesOf_length]
  have hless : (lessN (ofL (bytesOf a)) (ofL (bytesOf b)) == Op.bytesLess a.toList b.toList) = true := by
    rw [lessN_of _ _ (bytesOf_bd a) (bytesOf_bd b), str_less]; simp
  have HLESS := Lib.hid hless
  have HCO := Lib.hid (commonL_of _ _ (bytesOf_bd a) (bytesOf_bd b))
  have HCM := Lib.hid (commonL_comm (ofL (bytesOf b)) (ofL (bytesOf a)))
  have HCS := Lib.hid (commonL_self (ofL (bytesOf a)))
  have HLA := Lib.hid hla
  have HLB := Lib.hid hlb
  have HAA := Lib.hid (bytes_at a)
  have HAB := Lib.hid (bytes_at b)
  have HSA := Lib.hid (bytesOf_length a)
  have HSB := Lib.hid (bytesOf_length b)
  have OFA := Lib.hid (fun W : World => of_calls a W hka)
  have OFB := Lib.hid (fun W : World => of_calls b W hkb)
  clear hla hlb hless
  generalize bytesOf a = A at *
  generalize bytesOf b = B at *
  go_enter Try.func11, Try.ntmps11
  go_wp2_with (go_at_call 22; refine (alive_calls _).mono ?_; rintro e w1 ⟨rfl, hb1⟩)
  refine (OFA.out _).mono ?_
  rintro e w2 ⟨v2, rfl, ho2, hb2⟩
  have hb02 := below_next hb1 hb2
  have hi2 := Lib.hid (ho2.ints (by rw [HLA.out]; omega))
  obtain ⟨a2, c2, rfl⟩ := ho2.slice
  rw [HLA.out] at hi2
  rw [HLA.out]
  clear ho2
  go_wp2_with fail
  refine (OFB.out _).mono ?_
  rintro e w3 ⟨v3, rfl, ho3, hb3⟩
  have hb03 := below_next hb02 hb3
  have hi3 := Lib.hid (ho3.ints (by rw [HLB.out]; omega))
  have hi2' := Lib.hid (hi2.out.below hb3)
  obtain ⟨a3, c3, rfl⟩ := ho3.slice
  rw [HLB.out] at hi3
  rw [HLB.out]
  clear ho3 hb1 hb2 hb3 hb02 hi2
  go_wp2_with fail
  refine (common_calls _ _ _ _ _ hi2'.out hi3.out).mono ?_
  rintro e w4 ⟨rfl, n4, rfl⟩
  have hb04 := below_drewN hb03 n4
  have HI2 := Lib.hid (hi2'.out.drewN n4)
  have HI3 := Lib.hid (hi3.out.drewN n4)
  clear hb03 hi2' hi3
  generalize w3.drewN n4 = W at *
  have ⟨hcl, hcr⟩ := commonL_le A B
  rw [HSA.out] at hcl
  rw [HSB.out] at hcr
  have HCL := Lib.hid hcl
  have HCR := Lib.hid hcr
  have HB04 := Lib.hid hb04
  clear hcl hcr hb04
  go_wp2
  go_loopw [8] (fun i wr => ∃ k n : Nat, i = .int .i64 k ∧ k ≤ commonL A B ∧ wr = W.drewN n) (fun i _ => a.size - (intOf i).toNat)
  case atStart => exact ⟨0, 0, rfl, Nat.zero_le _, rfl⟩
  case round =>
    obtain ⟨k, n, rfl, hc, rfl⟩ := hrel
    have HC := Lib.hid hc
    clear hc
    by_cases hgo : k < a.size ∧ k < b.size ∧ A.getD k 0 = B.getD k 0
    · obtain ⟨hlx, hly, e⟩ := hgo
      have t3 : decide ((k : Int) < (a.size : Int)) = true := by simpa using hlx
      have t4 : decide ((k : Int) < (b.size : Int)) = true := by simpa using hly
      have hx := HAA.out k hlx
      have hy := HAB.out k hly
      have hc' : k + 1 ≤ commonL A B := by
        have h1 := commonL_at A B k (by rw [HSA.out]; exact hlx) (by rw [HSB.out]; exact hly) HC.out
        have : ¬ commonL A B = k := fun h => (h1.1 h) e
        have := HC.out
        omega
      have HC' := Lib.hid hc'
      have kx : (k : Int) < (a.size : Int) := by omega
      have ky : (k : Int) < (b.size : Int) := by omega
      rw [e] at hx
      clear e hc'
      generalize B.getD k 0 = q at *
      have e1 : (q == q) = true := by simp
      go_wp2
      go_quiet (fail)
      go_wp2
      go_roundw
      case rel => exact ⟨k + 1, n + nq, by go_num, HC'.out, rfl⟩
      case measure => simp [intOf]; omega
    · by_cases hlx : k < a.size
      · have t3 : decide ((k : Int) < (a.size : Int)) = true := by simpa using hlx
        by_cases hly : k < b.size
        · have t4 : decide ((k : Int) < (b.size : Int)) = true := by simpa using hly
          have hx := HAA.out k hlx
          have hy := HAB.out k hly
          have hne : ¬ A.getD k 0 = B.getD k 0 := fun e => hgo ⟨hlx, hly, e⟩
          have hkk : commonL A B = k := (commonL_at A B k (by rw [HSA.out]; exact hlx) (by rw [HSB.out]; exact hly) HC.out).2 hne
          have kx : (k : Int) < (a.size : Int) := by omega
          have ky : (k : Int) < (b.size : Int) := by omega
          have e1 : (A.getD k 0 == B.getD k 0) = false := by simpa using hne
          clear hgo hne
          generalize A.getD k 0 = p at *
          generalize B.getD k 0 = q at *
          go_wp2
          go_quiet (fail)
          have HK := Lib.hid hkk
          have hb05 := below_drewN HB04.out (n + nq)
          have HB05 := Lib.hid hb05
          have c1 := Lib.hid (less_calls _ _ _ _ _ (HI2.out.drewN (n + nq)) (HI3.out.drewN (n + nq)))
          have c2 := Lib.hid (common_calls _ _ _ _ _ (HI3.out.drewN (n + nq)) (HI2.out.drewN (n + nq)))
          rw [HCM.out] at c2
          have hco := HCO.out
          rw [HK.out] at hco
          clear hkk hb05
          generalize commonL (ofL A) (ofL B) = m at *
          have hless := HLESS.out
          generalize lessN (ofL A) (ofL B) = lb at *
          have hmm : ((m : Int) == (m : Int)) = true := by simp
          have haa : ((2 * (a.size : Int)) == (2 * (a.size : Int))) = true := by simp
          rcases hco with hco | hco
          · have m1 : ((m : Int) == 2 * (k : Int)) = true := by rw [beq_iff_eq]; omega
            have kb : (k : Int) ≤ 500 := by have := HCL.out; have := HK.out; omega
            clear hco
            go_wp2_with fail
            refine c1.out.mono ?_
            rintro e w' ⟨rfl, rfl⟩
            go_wp2_with fail
            refine c2.out.mono ?_
            rintro e w' ⟨rfl, n2, rfl⟩
            go_wp2_with fail
            refine (common_calls _ _ _ _ _ (HI2.out.drewN (n + nq + n2)) (HI2.out.drewN (n + nq + n2))).mono ?_
            rintro e w' ⟨rfl, n3, rfl⟩
            rw [HCS.out, HLA.out]
            go_wp2
            go_ret
            exact ⟨rfl, below_drewN HB04.out (n + nq + n2 + n3)⟩
          · have m1 : ((m : Int) == 2 * (k : Int)) = false := by rw [beq_eq_false_iff_ne]; omega
            have m2 : ((m : Int) == 2 * (k : Int) + 1) = true := by rw [beq_iff_eq]; omega
            have kb : (k : Int) ≤ 500 := by have := HCL.out; have := HK.out; omega
            clear hco
            go_wp2_with fail
            refine c1.out.mono ?_
            rintro e w' ⟨rfl, rfl⟩
            go_wp2_with fail
            refine c2.out.mono ?_
            rintro e w' ⟨rfl, n2, rfl⟩
            go_wp2_with fail
            refine (common_calls _ _ _ _ _ (HI2.out.drewN (n + nq + n2)) (HI2.out.drewN (n + nq + n2))).mono ?_
            rintro e w' ⟨rfl, n3, rfl⟩
            rw [HCS.out, HLA.out]
            go_wp2
            go_ret
            exact ⟨rfl, below_drewN HB04.out (n + nq + n2 + n3)⟩
        · have t4 : decide ((k : Int) < (b.size : Int)) = false := by simpa using hly
          have hkk : commonL A B = k := by have := HC.out; have := HCR.out; omega
          clear hgo
          go_wp2
          go_quiet (fail)
          have HK := Lib.hid hkk
          have hb05 := below_drewN HB04.out (n + nq)
          have HB05 := Lib.hid hb05
          have c1 := Lib.hid (less_calls _ _ _ _ _ (HI2.out.drewN (n + nq)) (HI3.out.drewN (n + nq)))
          have c2 := Lib.hid (common_calls _ _ _ _ _ (HI3.out.drewN (n + nq)) (HI2.out.drewN (n + nq)))
          rw [HCM.out] at c2
          have hco := HCO.out
          rw [HK.out] at hco
          clear hkk hb05
          generalize commonL (ofL A) (ofL B) = m at *
          have hless := HLESS.out
          generalize lessN (ofL A) (ofL B) = lb at *
          have hmm : ((m : Int) == (m : Int)) = true := by simp
          have haa : ((2 * (a.size : Int)) == (2 * (a.size : Int))) = true := by simp
          rcases hco with hco | hco
          · have m1 : ((m : Int) == 2 * (k : Int)) = true := by rw [beq_iff_eq]; omega
            have kb : (k : Int) ≤ 500 := by have := HCL.out; have := HK.out; omega
            clear hco
            go_wp2_with fail
            refine c1.out.mono ?_
            rintro e w' ⟨rfl, rfl⟩
            go_wp2_with fail
            refine c2.out.mono ?_
            rintro e w' ⟨rfl, n2, rfl⟩
            go_wp2_with fail
            refine (common_calls _ _ _ _ _ (HI2.out.drewN (n + nq + n2)) (HI2.out.drewN (n + nq + n2))).mono ?_
            rintro e w' ⟨rfl, n3, rfl⟩
            rw [HCS.out, HLA.out]
            go_wp2
            go_ret
            exact ⟨rfl, below_drewN HB04.out (n + nq + n2 + n3)⟩
          · have m1 : ((m : Int) == 2 * (k : Int)) = false := by rw [beq_eq_false_iff_ne]; omega
            have m2 : ((m : Int) == 2 * (k : Int) + 1) = true := by rw [beq_iff_eq]; omega
            have kb : (k : Int) ≤ 500 := by have := HCL.out; have := HK.out; omega
            clear hco
            go_wp2_with fail
            refine c1.out.mono ?_
            rintro e w' ⟨rfl, rfl⟩
            go_wp2_with fail
            refine c2.out.mono ?_
            rintro e w' ⟨rfl, n2, rfl⟩
            go_wp2_with fail
            refine (common_calls _ _ _ _ _ (HI2.out.drewN (n + nq + n2)) (HI2.out.drewN (n + nq + n2))).mono ?_
            rintro e w' ⟨rfl, n3, rfl⟩
            rw [HCS.out, HLA.out]
            go_wp2
            go_ret
            exact ⟨rfl, below_drewN HB04.out (n + nq + n2 + n3)⟩
      · have t3 : decide ((k : Int) < (a.size : Int)) = false := by simpa using hlx
        have hkk : commonL A B = k := by have := HC.out; have := HCL.out; omega
        clear hgo
        go_wp2
        go_quiet (fail)
        have HK := Lib.hid hkk
        have hb05 := below_drewN HB04.out (n + nq)
        have HB05 := Lib.hid hb05
        have c1 := Lib.hid (less_calls _ _ _ _ _ (HI2.out.drewN (n + nq)) (HI3.out.drewN (n + nq)))
        have c2 := Lib.hid (common_calls _ _ _ _ _ (HI3.out.drewN (n + nq)) (HI2.out.drewN (n + nq)))
        rw [HCM.out] at c2
        have hco := HCO.out
        rw [HK.out] at hco
        clear hkk hb05
        generalize commonL (ofL A) (ofL B) = m at *
        have hless := HLESS.out
        generalize lessN (ofL A) (ofL B) = lb at *
        have hmm : ((m : Int) == (m : Int)) = true := by simp
        have haa : ((2 * (a.size : Int)) == (2 * (a.size : Int))) = true := by simp
        rcases hco with hco | hco
        · have m1 : ((m : Int) == 2 * (k : Int)) = true := by rw [beq_iff_eq]; omega
          have kb : (k : Int) ≤ 500 := by have := HCL.out; have := HK.out; omega
          clear hco
          go_wp2_with fail
          refine c1.out.mono ?_
          rintro e w' ⟨rfl, rfl⟩
          go_wp2_with fail
          refine c2.out.mono ?_
          rintro e w' ⟨rfl, n2, rfl⟩
          go_wp2_with fail
          refine (common_calls _ _ _ _ _ (HI2.out.drewN (n + nq + n2)) (HI2.out.drewN (n + nq + n2))).mono ?_
          rintro e w' ⟨rfl, n3, rfl⟩
          rw [HCS.out, HLA.out]
          go_wp2
          go_ret
          exact ⟨rfl, below_drewN HB04.out (n + nq + n2 + n3)⟩
        · have m1 : ((m : Int) == 2 * (k : Int)) = false := by rw [beq_eq_false_iff_ne]; omega
          have m2 : ((m : Int) == 2 * (k : Int) + 1) = true := by rw [beq_iff_eq]; omega
          have kb : (k : Int) ≤ 500 := by have := HCL.out; have := HK.out; omega
          clear hco
          go_wp2_with fail
          refine c1.out.mono ?_
          rintro e w' ⟨rfl, rfl⟩
          go_wp2_with fail
          refine c2.out.mono ?_
          rintro e w' ⟨rfl, n2, rfl⟩
          go_wp2_with fail
          refine (common_calls _ _ _ _ _ (HI2.out.drewN (n + nq + n2)) (HI2.out.drewN (n + nq + n2))).mono ?_
          rintro e w' ⟨rfl, n3, rfl⟩
          rw [HCS.out, HLA.out]
          go_wp2
          go_ret
          exact ⟨rfl, below_drewN HB04.out (n + nq + n2 + n3)⟩
set_option maxHeartbeats 400000 in
theorem nibOrder_out (a b : ByteArray) (w : World) (h : 500 < a.size ∨ (a.size ≤ 500 ∧ 500 < b.size)) :
    Calls Try.prog 11 #[.string a, .string b] w fun e w' => e = .returned (.bool true) ∧ Below w.heap.size w w' := by
  rcases h with h | ⟨h1, h2⟩
  · have t1 : decide ((500 : Int) < (a.size : Int)) = true := by simp; omega
    go_enter Try.func11, Try.ntmps11
    go_wp2_with (go_at_call 22; refine (alive_calls _).mono ?_; rintro e w1 ⟨rfl, hb1⟩)
    go_ret
    exact ⟨rfl, hb1⟩
  · have t1 : decide ((500 : Int) < (a.size : Int)) = false := by simp; omega
    have t2 : decide ((500 : Int) < (b.size : Int)) = true := by simp; omega
    go_enter Try.func11, Try.ntmps11
    go_wp2_with (go_at_call 22; refine (alive_calls _).mono ?_; rintro e w1 ⟨rfl, hb1⟩)
    go_ret
    exact ⟨rfl, hb1⟩
theorem nibOrder_walk (a : ByteArray) (_ : a.size ≤ maxLen) (b : ByteArray) (_ : b.size ≤ maxLen) {w : World} :
    Calls Try.prog 11 #[.string a, .string b] w fun e w' => e = .returned (.bool true) ∧ Below w.heap.size w w' := by
  by_cases h : a.size ≤ 500 ∧ b.size ≤ 500
  · exact nibOrder_main a b w h.1 h.2
  · exact nibOrder_out a b w (by omega)
end Go.Proofs.Ytflobafmmfigoaa
