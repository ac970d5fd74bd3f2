/- MODEL: the last stamp. -/
import Derived.Test.YtdeecdebhigafaaMdlCom
namespace Go.Proofs.Ytdeecdebhigafaa
open Go Go.RowKit

set_option maxHeartbeats 400000 in
theorem last_calls (v : Value) (cs : List Ct) (w : World) (hI : Coms w v cs) :
    Calls Try.prog 20 #[v] w fun e w' => e = .returned (.int .u64 (lastN cs : Int)) ∧ w = w' := by
  obtain ⟨a, cap, rfl⟩ := hI.slice
  have HI := Lib.hid hI
  have hle := hI.le
  have hcap := hI.cap_le
  clear hI
  by_cases h0 : cs.length = 0
  · have HL : Hid (lastN cs = 0) := Lib.hid (by rw [List.eq_nil_of_length_eq_zero h0]; rfl)
    have t0 : ((cs.length : Int) == 0) = true := by rw [beq_iff_eq]; omega
    clear h0
    go_enter Try.func20, Try.ntmps20
    go_wp2
    go_ret
    exact ⟨ret_int (by rw [HL.out]; rfl), rfl⟩
  · obtain ⟨m, hm⟩ : ∃ m, cs.length = m + 1 := ⟨cs.length - 1, by omega⟩
    obtain ⟨c, hc⟩ : ∃ c, cs[m]? = some c := ⟨_, List.getElem?_eq_getElem (by omega)⟩
    have HL : Hid (lastN cs = c.stamp) := Lib.hid (by unfold lastN; rw [List.getLast?_eq_getElem?, hm, Nat.add_sub_cancel, hc])
    obtain ⟨b, off, sa, sn, sc, rfl, hz, hc0, hc1, hr⟩ := HI.out.c2 hc
    have t0 : ((m : Int) + 1 == 0) = false := by rw [beq_eq_false_iff_ne]; omega
    rw [hm] at hle hcap ⊢
    clear h0 hz hr hm hc
    go_enter Try.func20, Try.ntmps20
    go_wp2
    go_ret
    exact ⟨ret_int (by rw [HL.out]), rfl⟩
set_option maxHeartbeats 400000 in
theorem rlast_calls (v : Value) (cs : List Ct) (w : World) (hI : Coms w v cs) :
    Calls Try.prog 21 #[v] w fun e w' => e = .returned (.int .u64 (lastN cs : Int)) ∧ w = w' := by
  obtain ⟨a, cap, rfl⟩ := hI.slice
  have HI := Lib.hid hI
  have hle := hI.le
  have hcap := hI.cap_le
  clear hI
  by_cases h0 : cs.length = 0
  · have HL : Hid (lastN cs = 0) := Lib.hid (by rw [List.eq_nil_of_length_eq_zero h0]; rfl)
    have t0 : ((cs.length : Int) == 0) = true := by rw [beq_iff_eq]; omega
    clear h0
    go_enter Try.func21, Try.ntmps21
    go_wp2
    go_ret
    exact ⟨ret_int (by rw [HL.out]; rfl), rfl⟩
  · obtain ⟨m, hm⟩ : ∃ m, cs.length = m + 1 := ⟨cs.length - 1, by omega⟩
    obtain ⟨c, hc⟩ : ∃ c, cs[m]? = some c := ⟨_, List.getElem?_eq_getElem (by omega)⟩
    have HL : Hid (lastN cs = c.stamp) := Lib.hid (by unfold lastN; rw [List.getLast?_eq_getElem?, hm, Nat.add_sub_cancel, hc])
    obtain ⟨b, off, sa, sn, sc, rfl, hz, hc0, hc1, hr⟩ := HI.out.c2 hc
    have t0 : ((m : Int) + 1 == 0) = false := by rw [beq_eq_false_iff_ne]; omega
    rw [hm] at hle hcap ⊢
    clear h0 hz hr hm hc
    go_enter Try.func21, Try.ntmps21
    go_wp2
    go_ret
    exact ⟨ret_int (by rw [HL.out]), rfl⟩
end Go.Proofs.Ytdeecdebhigafaa
