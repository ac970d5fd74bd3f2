/- REC: alive. -/
import Derived.Test.YtflobafmmfigoaaRecRDec
namespace Go.Proofs.Ytflobafmmfigoaa
open Go Go.RowKit

theorem enc_ab : encL 5 0 false ⟨#[97, 98]⟩ = [131075, 5, 0, 25185, 0, 0, 0, 0] := by kernel_rfl
theorem dec_lit : decP [259, 9, 64, 0, 0, 0, 0, 0] = some (9, 64, true, ⟨#[]⟩) := by kernel_rfl
theorem ok_lit : decide (recOk 5 false ⟨#[97, 98]⟩) = true := by kernel_rfl
theorem ok_lit2 : decide (recOk 9 true ⟨#[]⟩) = true := by kernel_rfl
theorem ok_lit3 : decide (recOk 0 false ⟨#[]⟩) = false := by kernel_rfl
theorem row_lit (w : World) (l : List Int) (h : ∀ c ∈ l, (Lit.int .u64 c).wf = true) (hl : l.length ≤ 100) : Ints .u64 (w.alloc (.cells (l.map (Value.int .u64)).toArray 22)) (.slice (some ⟨w.heap.size, 0, none⟩) l.length l.length) l :=
  Ints.ofRow (heap_alloc_new w _) h (by omega) (Nat.le_refl _) (fun j hj => by simp [hj])
set_option maxHeartbeats 1600000 in
theorem ralive_calls (w : World) : Calls Try.prog 14 #[] w fun e w' => e = .returned (.bool true) ∧ Below w.heap.size w w' := by
  go_enter Try.func14, Try.ntmps14
  go_wp2_with fail
  refine (enc_calls 5 0 false ⟨#[97, 98]⟩ _ (by unfold W64; omega) (by unfold W64; omega)).mono ?_
  rintro e w1 ⟨v1, rfl, ho1, hb1⟩
  rw [ok_lit]
  rw [enc_ab] at ho1
  have hi1 := ho1.ints (by simp)
  obtain ⟨A1, c1, rfl⟩ := hi1.slice
  have HI1 := Lib.hid hi1
  have HB1 := Lib.hid hb1
  clear ho1 hi1 hb1
  have HI2 := Lib.hid (row_lit w1 [259, 9, 64, 0, 0, 0, 0, 0] (by decide) (by simp))
  go_wp2_with fail
  refine (dec_calls _ _ _ HI2.out).mono ?_
  rintro e w2 ⟨rfl, hb2⟩
  rw [dec_lit]
  unfold decV recV
  have HB2 := Lib.hid (below_next (HB1.out.alloc HB1.out.size _) hb2)
  have HI12 := Lib.hid ((HI1.out.below ((Below.refl w1.heap.size w1).alloc (Nat.le_refl _) _)).below hb2)
  clear hb2
  have e3 : (w2.alloc (.cells #[.int .u64 9, .int .u64 64, .bool true, .string ⟨#[]⟩] 29)).heap.size = w2.heap.size + 1 := by simp
  have HI3 : Hid (Ints .u64 ((w2.alloc (.cells #[.int .u64 9, .int .u64 64, .bool true, .string ⟨#[]⟩] 29)).alloc (.cells #[.int .u64 131075, .int .u64 5, .int .u64 0, .int .u64 25185, .int .u64 0, .int .u64 0, .int .u64 0, .int .u64 0] 22)) (.slice (some ⟨w2.heap.size + 1, 0, none⟩) 8 8) [131075, 5, 0, 25185, 0, 0, 0, 0]) := Lib.hid (by
    have h := row_lit (w2.alloc (.cells #[.int .u64 9, .int .u64 64, .bool true, .string ⟨#[]⟩] 29)) [131075, 5, 0, 25185, 0, 0, 0, 0] (by decide) (by simp)
    rw [e3] at h
    exact h)
  have hb4 := ((Below.refl w2.heap.size w2).alloc (Nat.le_refl _) (.cells #[.int .u64 9, .int .u64 64, .bool true, .string ⟨#[]⟩] 29)).alloc (by simp) (.cells #[.int .u64 131075, .int .u64 5, .int .u64 0, .int .u64 25185, .int .u64 0, .int .u64 0, .int .u64 0, .int .u64 0] 22)
  have HB4 := Lib.hid (below_next HB2.out hb4)
  have HI13 : Hid (Ints .u64 ((w2.alloc (.cells #[.int .u64 9, .int .u64 64, .bool true, .string ⟨#[]⟩] 29)).alloc (.cells #[.int .u64 131075, .int .u64 5, .int .u64 0, .int .u64 25185, .int .u64 0, .int .u64 0, .int .u64 0, .int .u64 0] 22)) (.slice A1 8 c1) [131075, 5, 0, 25185, 0, 0, 0, 0]) := Lib.hid (HI12.out.below hb4)
  clear hb4 e3
  go_wp2_with fail
  refine (same_calls _ _ _ _ _ HI13.out HI3.out).mono ?_
  rintro e w5 ⟨rfl, n5, rfl⟩
  rw [decide_eq_true (p := ([131075, 5, 0, 25185, 0, 0, 0, 0] : List Int) = [131075, 5, 0, 25185, 0, 0, 0, 0]) rfl]
  go_wp2_with fail
  refine (right_calls 9 64 true ⟨#[]⟩ _).mono ?_
  rintro e w6 ⟨rfl, hb6⟩
  rw [ok_lit2]
  have HB6 := Lib.hid (below_next (below_drewN HB4.out n5) hb6)
  clear hb6
  go_wp2_with fail
  refine (right_calls 0 0 false ⟨#[]⟩ _).mono ?_
  rintro e w7 ⟨rfl, hb7⟩
  rw [ok_lit3]
  have HB7 := Lib.hid (below_next HB6.out hb7)
  clear hb7
  go_wp2
  go_ret
  exact ⟨rfl, HB7.out⟩
end Go.Proofs.Ytflobafmmfigoaa
