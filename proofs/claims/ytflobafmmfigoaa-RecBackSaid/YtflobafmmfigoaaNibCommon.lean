/- NibCommon: THE WALK. -/
import Derived.Test.YtflobafmmfigoaaNibOrder
import Derived.Test.YtflobafmmfigoaaGrow
namespace Go.Proofs.Ytflobafmmfigoaa
open Go Go.RowKit

theorem rowOf43 : RowOf Try.prog 43 5 .u8 1 := ⟨Try.underlying43, info5⟩
set_option maxHeartbeats 1600000 in
theorem nibCommon_main (va vb : Value) (a b : List Int) (w : World) (hA : Ints .u8 w va a) (hB : Ints .u8 w vb b) (h1 : a.length ≤ 500) (h2 : b.length ≤ 500) :
    Calls Try.prog 12 #[va, vb] w fun e w' => e = .returned (.bool true) ∧ Below w.heap.size w w' := by
  obtain ⟨aa, ca, rfl⟩ := hA.slice
  obtain ⟨ab, cb, rfl⟩ := hB.slice
  have t1 : decide ((500 : Int) < (a.length : Int)) = false := by simp; omega
  have t2 : decide ((500 : Int) < (b.length : Int)) = false := by simp; omega
  have HA := Lib.hid hA
  have HB := Lib.hid hB
  have hma := hA.cap_le
  have hmb := hB.cap_le
  clear hA hB
  go_enter Try.func12, Try.ntmps12
  go_wp2_with (go_at_call 22; refine (alive_calls _).mono ?_; rintro e w1 ⟨rfl, hb1⟩)
  refine (common_calls _ _ _ _ _ (HA.out.below hb1) (HB.out.below hb1)).mono ?_
  rintro e w2 ⟨rfl, n1, rfl⟩
  have hb2 := below_drewN hb1 n1
  have HA2 := Lib.hid (HA.out.below hb2)
  have HB2 := Lib.hid (HB.out.below hb2)
  have ⟨hcl, hcr⟩ := commonL_le a b
  have htk := commonL_take a b
  have HAT := Lib.hid (fun h1 h2 => (commonL_at a b (commonL a b) h1 h2 (Nat.le_refl _)).1 rfl)
  have HPRE := Lib.hid (commonL_pre a b)
  generalize w1.drewN n1 = W at *
  generalize commonL a b = m at *
  have hcA : ∀ n, (convert 43 9 (.slice aa m ca)).run Try.prog (W.drewN n) = .ok (.string (strOfNums (a.take m))) (W.drewN n) := fun n => ((HA2.out.take m hcl).drewN n).conv'
  have hcB : ∀ n, (convert 43 9 (.slice ab m cb)).run Try.prog (W.drewN n) = .ok (.string (strOfNums (a.take m))) (W.drewN n) := fun n => by rw [htk]; exact ((HB2.out.take m hcr).drewN n).conv'
  have hq : ((strOfNums (a.take m)).toList == (strOfNums (a.take m)).toList) = true := by simp
  have b1 : (m : Int) ≤ ca := by omega
  have b2 : (m : Int) ≤ cb := by omega
  have b3 : (0 : Int) ≤ (m : Int) := by omega
  have u1 : decide (a.length < m) = false := by simpa using hcl
  have u2 : decide (b.length < m) = false := by simpa using hcr
  have HCL := Lib.hid hcl
  have HCR := Lib.hid hcr
  clear htk hb1 hcl hcr
  by_cases hlx : m < a.length
  · have t3 : decide ((m : Int) < (a.length : Int)) = true := by simpa using hlx
    by_cases hly : m < b.length
    · have t4 : decide ((m : Int) < (b.length : Int)) = true := by simpa using hly
      obtain ⟨bx, ox, rfl, hcx⟩ := HA2.out.cells (by omega)
      obtain ⟨b_y, oy, rfl, hcy⟩ := HB2.out.cells (by omega)
      have hx := hcx m hlx
      have hy := hcy m hly
      have hne := HAT.out hlx hly
      have e1 : (a.getD m 0 == b.getD m 0) = false := by simpa using hne
      have kx : (m : Int) < (a.length : Int) := by omega
      have ky : (m : Int) < (b.length : Int) := by omega
      clear hne hcx hcy
      generalize a.getD m 0 = p at *
      generalize b.getD m 0 = q at *
      go_wp2_with fail
      go_quiet (fail)
      clear hcA hcB
      have HIA := Lib.hid (HA2.out.drewN nq)
      have HIB := Lib.hid (HB2.out.drewN nq)
      have HW := Lib.hid (below_drewN hb2 nq)
      clear hb2 HA2 HB2
      generalize W.drewN nq = W1 at *
      go_wp2_with (at_builtin; first | (refine wpList_grow rfl (.const (.slice none 0 0)) (.tmp 64) 43 rfl rowOf43 W1.heap.size _ [] rfl (Own.nil_ _ _ _ _) _ a rfl HIA.out 500 ?c2 ⟨by simp [maxLen], by omega⟩ ?c1 ?_; (case c1 => exact Nat.le_refl _); (case c2 => simpa using h1); intro A3 c3 w3 hown3 hb3; rw [List.nil_append, List.length_nil, Nat.zero_add] at hown3; have HOWN3 := Lib.hid hown3; have HB3 := Lib.hid hb3; have HIB3 := Lib.hid (HIB.out.below hb3); clear hown3 hb3; rw [List.length_nil, Nat.zero_add]) | (refine wpList_grow rfl (.tmp 65) (.tmp 66) 43 rfl rowOf43 W1.heap.size _ a rfl HOWN3.out _ b rfl HIB3.out 1000 ?c2 ⟨by simp [maxLen], by omega⟩ ?c1 ?_; (case c1 => exact HB3.out.size); (case c2 => omega); intro A4 c4 w4 hown4 hb4))
      have HB4 := Lib.hid (HB3.out.trans hb4)
      have HI4 := Lib.hid (Own.ints hown4 (by simp; omega))
      have HIA4 := Lib.hid (HIA.out.below HB4.out)
      clear hown4 hb4
      go_wp2_with fail
      refine (common_calls _ _ _ _ _ HIA4.out HI4.out).mono ?_
      rintro e w5 ⟨rfl, n5, rfl⟩
      rw [HPRE.out]
      have hqq : ((a.length : Int) == (a.length : Int)) = true := by simp
      go_wp2
      go_ret
      exact ⟨rfl, below_drewN (below_next HW.out HB4.out) n5⟩
    · have t4 : decide ((m : Int) < (b.length : Int)) = false := by simpa using hly
      go_wp2_with fail
      go_quiet (fail)
      clear hcA hcB
      have HIA := Lib.hid (HA2.out.drewN nq)
      have HIB := Lib.hid (HB2.out.drewN nq)
      have HW := Lib.hid (below_drewN hb2 nq)
      clear hb2 HA2 HB2
      generalize W.drewN nq = W1 at *
      go_wp2_with (at_builtin; first | (refine wpList_grow rfl (.const (.slice none 0 0)) (.tmp 64) 43 rfl rowOf43 W1.heap.size _ [] rfl (Own.nil_ _ _ _ _) _ a rfl HIA.out 500 ?c2 ⟨by simp [maxLen], by omega⟩ ?c1 ?_; (case c1 => exact Nat.le_refl _); (case c2 => simpa using h1); intro A3 c3 w3 hown3 hb3; rw [List.nil_append, List.length_nil, Nat.zero_add] at hown3; have HOWN3 := Lib.hid hown3; have HB3 := Lib.hid hb3; have HIB3 := Lib.hid (HIB.out.below hb3); clear hown3 hb3; rw [List.length_nil, Nat.zero_add]) | (refine wpList_grow rfl (.tmp 65) (.tmp 66) 43 rfl rowOf43 W1.heap.size _ a rfl HOWN3.out _ b rfl HIB3.out 1000 ?c2 ⟨by simp [maxLen], by omega⟩ ?c1 ?_; (case c1 => exact HB3.out.size); (case c2 => omega); intro A4 c4 w4 hown4 hb4))
      have HB4 := Lib.hid (HB3.out.trans hb4)
      have HI4 := Lib.hid (Own.ints hown4 (by simp; omega))
      have HIA4 := Lib.hid (HIA.out.below HB4.out)
      clear hown4 hb4
      go_wp2_with fail
      refine (common_calls _ _ _ _ _ HIA4.out HI4.out).mono ?_
      rintro e w5 ⟨rfl, n5, rfl⟩
      rw [HPRE.out]
      have hqq : ((a.length : Int) == (a.length : Int)) = true := by simp
      go_wp2
      go_ret
      exact ⟨rfl, below_drewN (below_next HW.out HB4.out) n5⟩
  · have t3 : decide ((m : Int) < (a.length : Int)) = false := by simpa using hlx
    go_wp2_with fail
    go_quiet (fail)
    clear hcA hcB
    have HIA := Lib.hid (HA2.out.drewN nq)
    have HIB := Lib.hid (HB2.out.drewN nq)
    have HW := Lib.hid (below_drewN hb2 nq)
    clear hb2 HA2 HB2
    generalize W.drewN nq = W1 at *
    go_wp2_with (at_builtin; first | (refine wpList_grow rfl (.const (.slice none 0 0)) (.tmp 64) 43 rfl rowOf43 W1.heap.size _ [] rfl (Own.nil_ _ _ _ _) _ a rfl HIA.out 500 ?c2 ⟨by simp [maxLen], by omega⟩ ?c1 ?_; (case c1 => exact Nat.le_refl _); (case c2 => simpa using h1); intro A3 c3 w3 hown3 hb3; rw [List.nil_append, List.length_nil, Nat.zero_add] at hown3; have HOWN3 := Lib.hid hown3; have HB3 := Lib.hid hb3; have HIB3 := Lib.hid (HIB.out.below hb3); clear hown3 hb3; rw [List.length_nil, Nat.zero_add]) | (refine wpList_grow rfl (.tmp 65) (.tmp 66) 43 rfl rowOf43 W1.heap.size _ a rfl HOWN3.out _ b rfl HIB3.out 1000 ?c2 ⟨by simp [maxLen], by omega⟩ ?c1 ?_; (case c1 => exact HB3.out.size); (case c2 => omega); intro A4 c4 w4 hown4 hb4))
    have HB4 := Lib.hid (HB3.out.trans hb4)
    have HI4 := Lib.hid (Own.ints hown4 (by simp; omega))
    have HIA4 := Lib.hid (HIA.out.below HB4.out)
    clear hown4 hb4
    go_wp2_with fail
    refine (common_calls _ _ _ _ _ HIA4.out HI4.out).mono ?_
    rintro e w5 ⟨rfl, n5, rfl⟩
    rw [HPRE.out]
    have hqq : ((a.length : Int) == (a.length : Int)) = true := by simp
    go_wp2
    go_ret
    exact ⟨rfl, below_drewN (below_next HW.out HB4.out) n5⟩

set_option maxHeartbeats 400000 in
theorem nibCommon_out (va vb : Value) (a b : List Int) (w : World) (hA : Ints .u8 w va a) (hB : Ints .u8 w vb b) (h : 500 < a.length ∨ (a.length ≤ 500 ∧ 500 < b.length)) :
    Calls Try.prog 12 #[va, vb] w fun e w' => e = .returned (.bool true) ∧ Below w.heap.size w w' := by
  obtain ⟨aa, ca, rfl⟩ := hA.slice
  obtain ⟨ab, cb, rfl⟩ := hB.slice
  clear hA hB
  rcases h with h | ⟨h1, h2⟩
  · have t1 : decide ((500 : Int) < (a.length : Int)) = true := by simp; omega
    go_enter Try.func12, Try.ntmps12
    go_wp2_with (go_at_call 22; refine (alive_calls _).mono ?_; rintro e w1 ⟨rfl, hb1⟩)
    go_ret
    exact ⟨rfl, hb1⟩
  · have t1 : decide ((500 : Int) < (a.length : Int)) = false := by simp; omega
    have t2 : decide ((500 : Int) < (b.length : Int)) = true := by simp; omega
    go_enter Try.func12, Try.ntmps12
    go_wp2_with (go_at_call 22; refine (alive_calls _).mono ?_; rintro e w1 ⟨rfl, hb1⟩)
    go_ret
    exact ⟨rfl, hb1⟩
theorem nibCommon_walk (va : Value) (a : List Int) {w : World} (hA : Ints .u8 w va a) (vb : Value) (b : List Int) (hB : Ints .u8 w vb b) :
    Calls Try.prog 12 #[va, vb] w fun e w' => e = .returned (.bool true) ∧ Below w.heap.size w w' := by
  by_cases h : a.length ≤ 500 ∧ b.length ≤ 500
  · exact nibCommon_main va vb a b w hA hB h.1 h.2
  · exact nibCommon_out va vb a b w hA hB (by omega)
end Go.Proofs.Ytflobafmmfigoaa
