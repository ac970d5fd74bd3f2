/- NIBBLES: the laws' first line. -/
import Derived.Test.YtflobafmmfigoaaNibFns5
namespace Go.Proofs.Ytflobafmmfigoaa
open Go Go.RowKit

theorem of_a (w : World) : Calls Try.prog 25 #[.string ⟨#[97]⟩] w fun e w' => ∃ v, e = .returned v ∧ Own .u8 5 w' w.heap.size v [6, 1] ∧ Below w.heap.size w w' := of_calls ⟨#[97]⟩ w (by decide)
theorem unpack_354 (w : World) : Calls Try.prog 33 #[.int .u64 354] w fun e w' => ∃ v, e = .returned (.tuple #[v, .bool true]) ∧ Own .u8 5 w' w.heap.size v [6, 1] ∧ Below w.heap.size w w' :=
  (unpack_calls 354 w (by unfold W64; omega)).mono fun e w' ⟨hb, h⟩ => by
    rcases h with ⟨h, _⟩ | ⟨v, _, he, ho⟩
    · exact absurd h (by decide)
    · exact ⟨v, he, ho, hb⟩
theorem two_row (w : World) (x y : Int) (hx : 0 ≤ x ∧ x ≤ 255) (hy : 0 ≤ y ∧ y ≤ 255) : Ints .u8 (w.alloc (.cells #[.int .u8 x, .int .u8 y] 5)) (.slice (some ⟨w.heap.size, 0, none⟩) 2 2) [x, y] :=
  Ints.ofRow (l := [x, y]) (cap := 2) (heap_alloc_new w _) (by intro c hc; simp at hc; rcases hc with rfl | rfl <;> exact wf_u8 (by omega)) (by simp) (by simp) (by
    intro j hj
    rcases j with _ | _ | j
    · rfl
    · rfl
    · simp at hj; omega)
theorem one_row (w : World) (x : Int) (hx : 0 ≤ x ∧ x ≤ 255) : Ints .u8 (w.alloc (.cells #[.int .u8 x] 5)) (.slice (some ⟨w.heap.size, 0, none⟩) 1 1) [x] :=
  Ints.ofRow (l := [x]) (cap := 1) (heap_alloc_new w _) (by intro c hc; simp at hc; subst hc; exact wf_u8 (by omega)) (by simp) (by simp) (by intro j hj; simp at hj; subst hj; rfl)
theorem key_61 : keyV [6, 1] = .tuple #[.string (strOfNums [97]), .bool true] := rfl
theorem pack_61 : packV [6, 1] = .tuple #[.int .u64 354, .bool true] := rfl

set_option maxHeartbeats 800000 in
theorem alive_calls (w : World) : Calls Try.prog 22 #[] w fun e w' => e = .returned (.bool true) ∧ Below w.heap.size w w' := by
  go_enter Try.func22, Try.ntmps22
  go_wp2_with fail
  refine (of_a _).mono ?_
  rintro e w1 ⟨v1, rfl, ho1, hb1⟩
  have h1 := ho1.ints (by simp)
  obtain ⟨a1, c1, rfl⟩ := ho1.slice
  have H1 := Lib.hid h1
  clear h1 ho1
  go_wp2_with fail
  refine (pack_calls _ _ _ H1.out).mono ?_
  rintro e w' ⟨rfl, rfl⟩
  rw [pack_61]
  go_wp2_with fail
  refine (unpack_354 _).mono ?_
  rintro e w2 ⟨v2, rfl, ho2, hb2⟩
  have h2 := ho2.ints (by simp)
  obtain ⟨a2, c2, rfl⟩ := ho2.slice
  have H2 := Lib.hid h2
  clear h2 ho2
  go_wp2_with fail
  have h3 := two_row w2 6 1 (by omega) (by omega)
  have H3 := Lib.hid h3
  clear h3
  refine (key_calls _ _ _ H3.out (by simp)).mono ?_
  rintro e w3 ⟨rfl, hb3⟩
  rw [key_61]
  have hb03 : Below w.heap.size w w3 := below_next (below_next (below_next hb1 hb2) ((Below.refl _ _).alloc (Nat.le_refl _) _)) hb3
  have s1 : (convert 43 9 (.slice a1 2 c1)).run Try.prog w3 = .ok (.string (strOfNums [6, 1])) w3 := (((H1.out.below hb2).below ((Below.refl _ _).alloc (Nat.le_refl _) (.cells #[.int .u8 6, .int .u8 1] 5))).below hb3).string (P := Try.prog) (src := 43) (e := 5) (dst := 9) Try.underlying43 Try.underlying5 Try.underlying9
  have s2 : (convert 43 9 (.slice a2 2 c2)).run Try.prog w3 = .ok (.string (strOfNums [6, 1])) w3 := ((H2.out.below ((Below.refl _ _).alloc (Nat.le_refl _) (.cells #[.int .u8 6, .int .u8 1] 5))).below hb3).string (P := Try.prog) (src := 43) (e := 5) (dst := 9) Try.underlying43 Try.underlying5 Try.underlying9
  have q1 : ((strOfNums [6, 1]).toList == [6, 1]) = true := by rw [toList_strOf]; rfl
  have q2 : ((strOfNums [97]).toList == [97]) = true := by rw [toList_strOf]; rfl
  clear hb1 hb2 hb3
  go_wp2_with fail
  have hA := two_row w3 1 2 (by omega) (by omega)
  have hB := two_row (w3.alloc (.cells #[.int .u8 1, .int .u8 2] 5)) 1 3 (by omega) (by omega)
  have hA' := hA.below ((Below.refl _ _).alloc (Nat.le_refl _) (.cells #[.int .u8 1, .int .u8 3] 5))
  have hb5 : Below w.heap.size w ((w3.alloc (.cells #[.int .u8 1, .int .u8 2] 5)).alloc (.cells #[.int .u8 1, .int .u8 3] 5)) := (hb03.alloc hb03.size _).alloc (by have := hb03.size; simp; omega) _
  have hC : Hid (Calls Try.prog 27 #[.slice (some ⟨w3.heap.size, 0, none⟩) 2 2, .slice (some ⟨w3.heap.size + 1, 0, none⟩) 2 2] ((w3.alloc (.cells #[.int .u8 1, .int .u8 2] 5)).alloc (.cells #[.int .u8 1, .int .u8 3] 5)) fun e w' => e = .returned (.int .i64 (commonL [1, 2] [1, 3] : Nat)) ∧ ∃ n, w' = ((w3.alloc (.cells #[.int .u8 1, .int .u8 2] 5)).alloc (.cells #[.int .u8 1, .int .u8 3] 5)).drewN n) :=
    common_calls _ _ [1, 2] [1, 3] _ hA' (by simpa using hB)
  refine hC.out.mono ?_
  rintro e w' ⟨rfl, n, rfl⟩
  clear hC hA hB hA' s1 s2
  rw [show commonL [1, 2] [1, 3] = 1 from rfl]
  generalize (w3.alloc (.cells #[.int .u8 1, .int .u8 2] 5)).alloc (.cells #[.int .u8 1, .int .u8 3] 5) = w5 at *
  go_wp2_with fail
  have hA := one_row (w5.drewN n) 1 (by omega)
  have hB := one_row ((w5.drewN n).alloc (.cells #[.int .u8 1] 5)) 2 (by omega)
  have hA' := hA.below ((Below.refl _ _).alloc (Nat.le_refl _) (.cells #[.int .u8 2] 5))
  have hC : Hid (Calls Try.prog 29 #[.slice (some ⟨w5.heap.size, 0, none⟩) 1 1, .slice (some ⟨w5.heap.size + 1, 0, none⟩) 1 1] (((w5.drewN n).alloc (.cells #[.int .u8 1] 5)).alloc (.cells #[.int .u8 2] 5)) fun e w' => e = .returned (.bool (lessN [1] [2])) ∧ (((w5.drewN n).alloc (.cells #[.int .u8 1] 5)).alloc (.cells #[.int .u8 2] 5)) = w') :=
    less_calls _ _ [1] [2] _ hA' (by simpa using hB)
  have hb6 : Below w.heap.size w (((w5.drewN n).alloc (.cells #[.int .u8 1] 5)).alloc (.cells #[.int .u8 2] 5)) := Below.alloc (Below.alloc (below_drewN hb5 n) hb5.size _) (by have := hb5.size; simp; omega) _
  refine hC.out.mono ?_
  rintro e w' ⟨rfl, rfl⟩
  clear hC hA hB hA' hb5
  rw [show lessN [1] [2] = true from rfl]
  go_wp2
  go_ret
  exact ⟨rfl, hb6⟩
end Go.Proofs.Ytflobafmmfigoaa
