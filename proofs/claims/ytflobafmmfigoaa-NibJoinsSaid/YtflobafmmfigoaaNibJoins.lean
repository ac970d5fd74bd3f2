/- NibJoins: THE WALK. -/
import Derived.Test.YtflobafmmfigoaaNibCommon
import Derived.Test.YtflobafmmfigoaaHeld
import Derived.Laws.Concat
namespace Go.Proofs.Ytflobafmmfigoaa
open Go Go.RowKit
set_option linter.unusedSimpArgs false

theorem bytes_add (a b : ByteArray) : bytesOf (a ++ b) = bytesOf a ++ bytesOf b := by
  unfold bytesOf
  rw [ByteArray.data_append, Array.toList_append, List.map_append]
theorem size_add (a b : ByteArray) : (a ++ b).size = a.size + b.size := ByteArray.size_append
theorem key_join (a b : ByteArray) : keyV (ofL (bytesOf a) ++ ofL (bytesOf b)) = .tuple #[.string (a ++ b), .bool true] := by
  rw [← ofL_append, ← bytes_add]
  unfold keyV
  rw [keyL_of _ (bytesOf_bd _)]
  simp only []
  rw [strOf_bytes]
theorem str_join (a b : ByteArray) : strOfNums (ofL (bytesOf (a ++ b))) = strOfNums (ofL (bytesOf a)) ++ strOfNums (ofL (bytesOf b)) := by
  rw [strOf_append, bytes_add, ofL_append]
theorem common_join (a b : ByteArray) : commonL (ofL (bytesOf a)) (ofL (bytesOf (a ++ b))) = 2 * a.size := by
  rw [bytes_add, ofL_append, commonL_pre, ofL_length, bytesOf_length]

set_option maxHeartbeats 1600000 in
theorem nibJoins_main (a b : ByteArray) (w : World) (h1 : a.size ≤ 500) (h2 : b.size ≤ 500) :
    Calls Try.prog 13 #[.string a, .string b] w fun e w' => e = .returned (.bool true) ∧ Below w.heap.size w w' := by
  have t1 : decide ((500 : Int) < (a.size : Int)) = false := by simp; omega
  have t2 : decide ((500 : Int) < (b.size : Int)) = false := by simp; omega
  have HKA : Hid (a.size ≤ 100000) := Lib.hid (by omega)
  have HKB : Hid (b.size ≤ 100000) := Lib.hid (by omega)
  have HKS : Hid ((a ++ b).size ≤ 100000) := Lib.hid (by rw [size_add]; omega)
  have HOA : Hid ((ofL (bytesOf a)).length ≤ 140737488351232) := Lib.hid (by rw [ofL_length, bytesOf_length]; omega)
  have HOB : Hid ((ofL (bytesOf b)).length ≤ 140737488351232) := Lib.hid (by rw [ofL_length, bytesOf_length]; omega)
  have HOL : Hid ((ofL (bytesOf (a ++ b))).length ≤ 140737488351232) := Lib.hid (by rw [ofL_length, bytesOf_length, size_add]; omega)
  have HA1 : Hid ((ofL (bytesOf a)).length ≤ 1000) := Lib.hid (by rw [ofL_length, bytesOf_length]; omega)
  have HB1 : Hid ((ofL (bytesOf b)).length ≤ 1000) := Lib.hid (by rw [ofL_length, bytesOf_length]; omega)
  go_enter Try.func13, Try.ntmps13
  go_wp2_with (go_at_call 22; refine (alive_calls _).mono ?_; rintro e w1 ⟨rfl, hb1⟩)
  refine (of_calls _ _ HKA.out).mono ?_
  rintro e w2 ⟨va, rfl, hoa, hb2⟩
  have hia := hoa.ints HOA.out
  go_wp2_with fail
  refine (of_calls _ _ HKB.out).mono ?_
  rintro e w3 ⟨vb, rfl, hob, hb3⟩
  have HIB := Lib.hid (hob.ints HOB.out)
  have HOWN := Lib.hid ((hoa.below hb3).mono (Nat.le_refl _))
  have HS3 := Lib.hid (Nat.le_trans hb2.size hb3.size)
  have hb03 := below_next hb1 (below_next hb2 hb3)
  clear hob hoa hia
  go_wp2_with (at_builtin; (refine wpList_grow rfl (.tmp 19) (.tmp 21) 43 rfl rowOf43 w1.heap.size _ (ofL (bytesOf a)) rfl HOWN.out _ (ofL (bytesOf b)) rfl HIB.out 2000 ?c2 ⟨by simp [maxLen], by omega⟩ ?c1 ?_; (case c1 => exact HS3.out); (case c2 => (have := HA1.out; have := HB1.out; omega)); intro A4 c4 w4 hown4 hb4))
  have hb04 := below_next hb1 ((below_next hb2 hb3).trans hb4)
  have hi4 := Own.ints hown4 (by rw [List.length_append]; have := HA1.out; have := HB1.out; omega)
  have HI4 := Lib.hid hi4
  clear hown4 hb4 hi4 hb3 hb2 hb1 hb03 HIB HOWN HS3
  go_wp2_with fail
  refine (key_calls _ _ _ HI4.out (by rw [List.length_append]; have := HA1.out; have := HB1.out; omega)).mono ?_
  rintro e w5 ⟨rfl, hb5⟩
  rw [key_join]
  have HB05 := Lib.hid (below_next hb04 hb5)
  clear hb5 hb04 HI4
  have q1 : ((strOfNums (ofL (bytesOf (a ++ b)))).toList == (strOfNums (ofL (bytesOf a)) ++ strOfNums (ofL (bytesOf b))).toList) = true := by rw [str_join]; simp
  have q2 : ((a ++ b).toList == (a ++ b).toList) = true := by simp
  have q3 : (2 * (a.size : Int) == 2 * (a.size : Int)) = true := by simp
  have HCJ := Lib.hid (common_join a b)
  have hw2 : IntKind.i64.wrap (2 * (a.size : Int)) = 2 * (a.size : Int) := by have h1 := HKA.out; unfold IntKind.wrap; simp [IntKind.signed, IntKind.bits]; omega
  have hadd1 : ∀ W : World, (Op.stringOp .add a b).run Try.prog W = .ok (.string (a ++ b)) W := fun W => run_string_add_sum W a b (by omega)
  have hadd2 : ∀ W : World, (Op.stringOp .add (strOfNums (ofL (bytesOf a))) (strOfNums (ofL (bytesOf b)))).run Try.prog W = .ok (.string (strOfNums (ofL (bytesOf a)) ++ strOfNums (ofL (bytesOf b)))) W := fun W => run_string_add_sum W _ _ (by rw [strOfNums_size, strOfNums_size]; have := HA1.out; have := HB1.out; omega)
  go_wp2_with fail
  refine wp_region_held_drew (S := (fun _ : World => True)) (by kernel_rfl) ?_ (fun hHeld => ?_)
  · (trivial)
  try (change wpAnyH _ _ _ _ _ _ _ _ (World.drew _))
  refine wpAnyH_take (i := 0) (v := ?_) rfl (by kernel_rfl) (by kernel_rfl) (by kernel_rfl) (fun _ _ _ h => h) (Or.inl ⟨by rfl, ?_⟩) (by assumption) ?_
  rotate_left
  · intro w hSw
    go_simp
    try (with_reducible rfl)
  (simp only [Act.put, List.getElem_toArray, List.getElem_cons_succ, List.getElem_cons_zero, List.setIfInBounds_toArray, List.set_cons_zero, List.set_cons_succ])
  refine wpAnyH_take (i := 1) (v := ?_) rfl (by kernel_rfl) (by kernel_rfl) (by kernel_rfl) (fun _ _ _ h => h) (Or.inl ⟨by rfl, ?_⟩) (by assumption) ?_
  rotate_left
  · intro w hSw
    go_simp
    try (with_reducible rfl)
  (simp only [Act.put, List.getElem_toArray, List.getElem_cons_succ, List.getElem_cons_zero, List.setIfInBounds_toArray, List.set_cons_zero, List.set_cons_succ])
  refine wpAnyH_take (i := 2) (v := ?_) rfl (by kernel_rfl) (by kernel_rfl) (by kernel_rfl) (fun _ _ _ h => h) (Or.inl ⟨by rfl, ?_⟩) (by assumption) ?_
  rotate_left
  · intro w hSw
    go_simp
    try (with_reducible rfl)
  (simp only [Act.put, List.getElem_toArray, List.getElem_cons_succ, List.getElem_cons_zero, List.setIfInBounds_toArray, List.set_cons_zero, List.set_cons_succ])
  refine wpAnyH_take (i := 5) (v := ?_) rfl (by kernel_rfl) (by kernel_rfl) (by kernel_rfl) (fun _ _ _ h => h) (Or.inl ⟨by rfl, ?_⟩) (by assumption) ?_
  rotate_left
  · intro w hSw
    go_simp
    try (with_reducible rfl)
  (simp only [Act.put, List.getElem_toArray, List.getElem_cons_succ, List.getElem_cons_zero, List.setIfInBounds_toArray, List.set_cons_zero, List.set_cons_succ])
  refine wpAnyH_take (i := 8) (v := ?_) rfl (by kernel_rfl) (by kernel_rfl) (by kernel_rfl) (fun _ _ _ h => h) (Or.inl ⟨by rfl, ?_⟩) (by assumption) ?_
  rotate_left
  · intro w hSw
    go_simp
    try (with_reducible rfl)
  (simp only [Act.put, List.getElem_toArray, List.getElem_cons_succ, List.getElem_cons_zero, List.setIfInBounds_toArray, List.set_cons_zero, List.set_cons_succ])
  refine wpAnyH_ready (rs := [3]) (by kernel_rfl) (by simp) ?_
  refine AllReadyH.cons rfl (fun K hK => ?_) AllReadyH.nil
  go_simp
  (go_wp2_with (go_at_call 25; (with_reducible refine (of_calls _ _ HKS.out).mono ?_); rintro e wa ⟨va, rfl, hoa, hba⟩; have HIA := Lib.hid (hoa.ints HOL.out); have HBA := Lib.hid hba; clear hoa hba))
  refine hK.out _ _ ?_ ?_
  · (trivial)
  intro hHeld
  clear hK K
  refine wpAnyH_more (S' := (fun W : World => Ints .u8 W va (ofL (bytesOf (a ++ b))))) ((fun _ _ => trivial)) ?_ (fun hHeld2 => ?_)
  · (exact HIA.out)
  refine wpAnyH_take (i := 4) (v := ?_) rfl (by kernel_rfl) (by kernel_rfl) (by kernel_rfl) (fun _ _ _ h => h) (Or.inl ⟨by rfl, ?_⟩) (by assumption) ?_
  rotate_left
  · intro w hSw
    (have := hSw.conv')
    go_simp
    try (with_reducible rfl)
  (simp only [Act.put, List.getElem_toArray, List.getElem_cons_succ, List.getElem_cons_zero, List.setIfInBounds_toArray, List.set_cons_zero, List.set_cons_succ])
  refine wpAnyH_ready (rs := [6]) (by kernel_rfl) (by simp) ?_
  refine AllReadyH.cons rfl (fun K hK => ?_) AllReadyH.nil
  go_simp
  (go_wp2_with (go_at_call 25; (with_reducible refine (of_calls _ _ HKA.out).mono ?_); rintro e wb ⟨vb, rfl, hob, hbb⟩; have HIB := Lib.hid (hob.ints HOA.out); have HBB := Lib.hid hbb; clear hob hbb))
  refine hK.out _ _ ?_ ?_
  · (exact hHeld2.below HBB.out)
  intro hHeld
  clear hK K
  refine wpAnyH_more (S' := (fun W : World => Ints .u8 W va (ofL (bytesOf (a ++ b))) ∧ Ints .u8 W vb (ofL (bytesOf a)))) ((fun _ h => h.1)) ?_ (fun hHeld2 => ?_)
  · (exact ⟨hHeld2.below HBB.out, HIB.out⟩)
  refine wpAnyH_take (i := 7) (v := ?_) rfl (by kernel_rfl) (by kernel_rfl) (by kernel_rfl) (fun _ _ _ h => h) (Or.inl ⟨by rfl, ?_⟩) (by assumption) ?_
  rotate_left
  · intro w hSw
    (have := hSw.2.conv')
    go_simp
    try (with_reducible rfl)
  (simp only [Act.put, List.getElem_toArray, List.getElem_cons_succ, List.getElem_cons_zero, List.setIfInBounds_toArray, List.set_cons_zero, List.set_cons_succ])
  refine wpAnyH_ready (rs := [9]) (by kernel_rfl) (by simp) ?_
  refine AllReadyH.cons rfl (fun K hK => ?_) AllReadyH.nil
  go_simp
  (go_wp2_with (go_at_call 25; (with_reducible refine (of_calls _ _ HKB.out).mono ?_); rintro e wc ⟨vc, rfl, hoc, hbc⟩; have HIC := Lib.hid (hoc.ints HOB.out); have HBC := Lib.hid hbc; clear hoc hbc))
  refine hK.out _ _ ?_ ?_
  · (exact ⟨hHeld2.1.below HBC.out, hHeld2.2.below HBC.out⟩)
  intro hHeld
  clear hK K
  refine wpAnyH_more (S' := (fun W : World => (Ints .u8 W va (ofL (bytesOf (a ++ b))) ∧ Ints .u8 W vb (ofL (bytesOf a))) ∧ Ints .u8 W vc (ofL (bytesOf b)))) ((fun _ h => h.1)) ?_ (fun hHeld2 => ?_)
  · (exact ⟨⟨hHeld2.1.below HBC.out, hHeld2.2.below HBC.out⟩, HIC.out⟩)
  refine wpAnyH_take (i := 10) (v := ?_) rfl (by kernel_rfl) (by kernel_rfl) (by kernel_rfl) (fun _ _ _ h => h) (Or.inl ⟨by rfl, ?_⟩) (by assumption) ?_
  rotate_left
  · intro w hSw
    (have := hSw.2.conv')
    go_simp
    try (with_reducible rfl)
  (simp only [Act.put, List.getElem_toArray, List.getElem_cons_succ, List.getElem_cons_zero, List.setIfInBounds_toArray, List.set_cons_zero, List.set_cons_succ])
  refine wpAnyH_take (i := 11) (v := ?_) rfl (by kernel_rfl) (by kernel_rfl) (by kernel_rfl) (fun _ _ _ h => h) (Or.inl ⟨by rfl, ?_⟩) (by assumption) ?_
  rotate_left
  · intro w hSw
    go_simp
    try (with_reducible rfl)
  (simp only [Act.put, List.getElem_toArray, List.getElem_cons_succ, List.getElem_cons_zero, List.setIfInBounds_toArray, List.set_cons_zero, List.set_cons_succ])
  refine wpAnyH_take (i := 12) (v := ?_) rfl (by kernel_rfl) (by kernel_rfl) (by kernel_rfl) (fun _ _ _ h => h) (Or.inl ⟨by rfl, ?_⟩) (by assumption) ?_
  rotate_left
  · intro w hSw
    go_simp
    try (with_reducible rfl)
  (simp only [Act.put, List.getElem_toArray, List.getElem_cons_succ, List.getElem_cons_zero, List.setIfInBounds_toArray, List.set_cons_zero, List.set_cons_succ])
  refine wpAnyH_take (i := 13) (v := ?_) rfl (by kernel_rfl) (by kernel_rfl) (by kernel_rfl) (fun _ _ _ h => h) (Or.inl ⟨by rfl, ?_⟩) (by assumption) ?_
  rotate_left
  · intro w hSw
    go_simp
    try (with_reducible rfl)
  (simp only [Act.put, List.getElem_toArray, List.getElem_cons_succ, List.getElem_cons_zero, List.setIfInBounds_toArray, List.set_cons_zero, List.set_cons_succ])
  refine wpAnyH_take (i := 14) (v := ?_) rfl (by kernel_rfl) (by kernel_rfl) (by kernel_rfl) (fun _ _ _ h => h) (Or.inl ⟨by rfl, ?_⟩) (by assumption) ?_
  rotate_left
  · intro w hSw
    go_simp
    try (with_reducible rfl)
  (simp only [Act.put, List.getElem_toArray, List.getElem_cons_succ, List.getElem_cons_zero, List.setIfInBounds_toArray, List.set_cons_zero, List.set_cons_succ])
  refine wpAnyH_take (i := 15) (v := ?_) rfl (by kernel_rfl) (by kernel_rfl) (by kernel_rfl) (fun _ _ _ h => h) (Or.inl ⟨by rfl, ?_⟩) (by assumption) ?_
  rotate_left
  · intro w hSw
    go_simp
    try (with_reducible rfl)
  (simp only [Act.put, List.getElem_toArray, List.getElem_cons_succ, List.getElem_cons_zero, List.setIfInBounds_toArray, List.set_cons_zero, List.set_cons_succ])
  refine wpAnyH_take (i := 16) (v := ?_) rfl (by kernel_rfl) (by kernel_rfl) (by kernel_rfl) (fun _ _ _ h => h) (Or.inl ⟨by rfl, ?_⟩) (by assumption) ?_
  rotate_left
  · intro w hSw
    go_simp
    try (with_reducible rfl)
  (simp only [Act.put, List.getElem_toArray, List.getElem_cons_succ, List.getElem_cons_zero, List.setIfInBounds_toArray, List.set_cons_zero, List.set_cons_succ])
  refine wpAnyH_take (i := 17) (v := ?_) rfl (by kernel_rfl) (by kernel_rfl) (by kernel_rfl) (fun _ _ _ h => h) (Or.inl ⟨by rfl, ?_⟩) (by assumption) ?_
  rotate_left
  · intro w hSw
    go_simp
    try (with_reducible rfl)
  (simp only [Act.put, List.getElem_toArray, List.getElem_cons_succ, List.getElem_cons_zero, List.setIfInBounds_toArray, List.set_cons_zero, List.set_cons_succ])
  refine wpAnyH_take (i := 18) (v := ?_) rfl (by kernel_rfl) (by kernel_rfl) (by kernel_rfl) (fun _ _ _ h => h) (Or.inl ⟨by rfl, ?_⟩) (by assumption) ?_
  rotate_left
  · intro w hSw
    go_simp
    try (with_reducible rfl)
  (simp only [Act.put, List.getElem_toArray, List.getElem_cons_succ, List.getElem_cons_zero, List.setIfInBounds_toArray, List.set_cons_zero, List.set_cons_succ])
  refine wpAnyH_take (i := 19) (v := ?_) rfl (by kernel_rfl) (by kernel_rfl) (by kernel_rfl) (fun _ _ _ h => h) (Or.inl ⟨by rfl, ?_⟩) (by assumption) ?_
  rotate_left
  · intro w hSw
    go_simp
    try (with_reducible rfl)
  (simp only [Act.put, List.getElem_toArray, List.getElem_cons_succ, List.getElem_cons_zero, List.setIfInBounds_toArray, List.set_cons_zero, List.set_cons_succ])
  refine wpAnyH_take (i := 20) (v := ?_) rfl (by kernel_rfl) (by kernel_rfl) (by kernel_rfl) (fun _ _ _ h => h) (Or.inl ⟨by rfl, ?_⟩) (by assumption) ?_
  rotate_left
  · intro w hSw
    go_simp
    try (with_reducible rfl)
  (simp only [Act.put, List.getElem_toArray, List.getElem_cons_succ, List.getElem_cons_zero, List.setIfInBounds_toArray, List.set_cons_zero, List.set_cons_succ])
  refine wpAnyH_take (i := 21) (v := ?_) rfl (by kernel_rfl) (by kernel_rfl) (by kernel_rfl) (fun _ _ _ h => h) (Or.inl ⟨by rfl, ?_⟩) (by assumption) ?_
  rotate_left
  · intro w hSw
    go_simp
    try (with_reducible rfl)
  (simp only [Act.put, List.getElem_toArray, List.getElem_cons_succ, List.getElem_cons_zero, List.setIfInBounds_toArray, List.set_cons_zero, List.set_cons_succ])
  refine wpAnyH_take (i := 22) (v := ?_) rfl (by kernel_rfl) (by kernel_rfl) (by kernel_rfl) (fun _ _ _ h => h) (Or.inl ⟨by rfl, ?_⟩) (by assumption) ?_
  rotate_left
  · intro w hSw
    go_simp
    try (with_reducible rfl)
  (simp only [Act.put, List.getElem_toArray, List.getElem_cons_succ, List.getElem_cons_zero, List.setIfInBounds_toArray, List.set_cons_zero, List.set_cons_succ])
  refine wpAnyH_take (i := 23) (v := ?_) rfl (by kernel_rfl) (by kernel_rfl) (by kernel_rfl) (fun _ _ _ h => h) (Or.inl ⟨by rfl, ?_⟩) (by assumption) ?_
  rotate_left
  · intro w hSw
    go_simp
    try (with_reducible rfl)
  (simp only [Act.put, List.getElem_toArray, List.getElem_cons_succ, List.getElem_cons_zero, List.setIfInBounds_toArray, List.set_cons_zero, List.set_cons_succ])
  refine wpAnyH_take (i := 24) (v := ?_) rfl (by kernel_rfl) (by kernel_rfl) (by kernel_rfl) (fun _ _ _ h => h) (Or.inl ⟨by rfl, ?_⟩) (by assumption) ?_
  rotate_left
  · intro w hSw
    go_simp
    try (with_reducible rfl)
  (simp only [Act.put, List.getElem_toArray, List.getElem_cons_succ, List.getElem_cons_zero, List.setIfInBounds_toArray, List.set_cons_zero, List.set_cons_succ])
  refine wpAnyH_take (i := 26) (v := ?_) rfl (by kernel_rfl) (by kernel_rfl) (by kernel_rfl) (fun _ _ _ h => h) (Or.inl ⟨by rfl, ?_⟩) (by assumption) ?_
  rotate_left
  · intro w hSw
    go_simp
    try (with_reducible rfl)
  (simp only [Act.put, List.getElem_toArray, List.getElem_cons_succ, List.getElem_cons_zero, List.setIfInBounds_toArray, List.set_cons_zero, List.set_cons_succ])
  refine wpAnyH_take (i := 27) (v := ?_) rfl (by kernel_rfl) (by kernel_rfl) (by kernel_rfl) (fun _ _ _ h => h) (Or.inl ⟨by rfl, ?_⟩) (by assumption) ?_
  rotate_left
  · intro w hSw
    go_simp
    try (with_reducible rfl)
  (simp only [Act.put, List.getElem_toArray, List.getElem_cons_succ, List.getElem_cons_zero, List.setIfInBounds_toArray, List.set_cons_zero, List.set_cons_succ])
  refine wpAnyH_take (i := 28) (v := ?_) rfl (by kernel_rfl) (by kernel_rfl) (by kernel_rfl) (fun _ _ _ h => h) (Or.inl ⟨by rfl, ?_⟩) (by assumption) ?_
  rotate_left
  · intro w hSw
    go_simp
    try (with_reducible rfl)
  (simp only [Act.put, List.getElem_toArray, List.getElem_cons_succ, List.getElem_cons_zero, List.setIfInBounds_toArray, List.set_cons_zero, List.set_cons_succ])
  refine wpAnyH_take (i := 31) (v := ?_) rfl (by kernel_rfl) (by kernel_rfl) (by kernel_rfl) (fun _ _ _ h => h) (Or.inl ⟨by rfl, ?_⟩) (by assumption) ?_
  rotate_left
  · intro w hSw
    go_simp
    try (with_reducible rfl)
  (simp only [Act.put, List.getElem_toArray, List.getElem_cons_succ, List.getElem_cons_zero, List.setIfInBounds_toArray, List.set_cons_zero, List.set_cons_succ])
  refine wpAnyH_take (i := 32) (v := ?_) rfl (by kernel_rfl) (by kernel_rfl) (by kernel_rfl) (fun _ _ _ h => h) (Or.inl ⟨by rfl, ?_⟩) (by assumption) ?_
  rotate_left
  · intro w hSw
    go_simp
    try (with_reducible rfl)
  (simp only [Act.put, List.getElem_toArray, List.getElem_cons_succ, List.getElem_cons_zero, List.setIfInBounds_toArray, List.set_cons_zero, List.set_cons_succ])
  refine wpAnyH_take (i := 33) (v := ?_) rfl (by kernel_rfl) (by kernel_rfl) (by kernel_rfl) (fun _ _ _ h => h) (Or.inl ⟨by rfl, ?_⟩) (by assumption) ?_
  rotate_left
  · intro w hSw
    go_simp
    try (with_reducible rfl)
  (simp only [Act.put, List.getElem_toArray, List.getElem_cons_succ, List.getElem_cons_zero, List.setIfInBounds_toArray, List.set_cons_zero, List.set_cons_succ])
  refine wpAnyH_ready (rs := [25]) (by kernel_rfl) (by simp) ?_
  refine AllReadyH.cons rfl (fun K hK => ?_) AllReadyH.nil
  go_simp
  (go_wp2_with (go_at_call 25; (with_reducible refine (of_calls _ _ HKA.out).mono ?_); rintro e wd ⟨vd, rfl, hod, hbd⟩; have HID := Lib.hid (hod.ints HOA.out); have HBD := Lib.hid hbd; clear hod hbd))
  refine hK.out _ _ ?_ ?_
  · (exact ⟨⟨hHeld2.1.1.below HBD.out, hHeld2.1.2.below HBD.out⟩, hHeld2.2.below HBD.out⟩)
  intro hHeld
  clear hK K
  refine wpAnyH_ready (rs := [29]) (by kernel_rfl) (by simp) ?_
  refine AllReadyH.cons rfl (fun K hK => ?_) AllReadyH.nil
  go_simp
  (go_wp2_with (go_at_call 25; (with_reducible refine (of_calls _ _ HKS.out).mono ?_); rintro e wf ⟨vf, rfl, hof, hbf⟩; have HID2 := Lib.hid (HID.out.below hbf); have HIF := Lib.hid (hof.ints HOL.out); have HBF := Lib.hid hbf; clear hof hbf))
  refine hK.out _ _ ?_ ?_
  · (exact ⟨⟨(hHeld2.1.1.below HBD.out).below HBF.out, (hHeld2.1.2.below HBD.out).below HBF.out⟩, (hHeld2.2.below HBD.out).below HBF.out⟩)
  intro hHeld
  clear hK K
  refine wpAnyH_ready (rs := [30]) (by kernel_rfl) (by simp) ?_
  refine AllReadyH.cons rfl (fun K hK => ?_) AllReadyH.nil
  go_simp
  (go_wp2_with (go_at_call 27; (with_reducible refine (common_calls _ _ _ _ _ HID2.out HIF.out).mono ?_); rintro e wg ⟨rfl, ng, rfl⟩; rw [HCJ.out]))
  refine hK.out _ _ ?_ ?_
  · (exact hHeld)
  intro hHeld
  clear hK K
  refine wpAnyH_take (i := 34) (v := ?_) rfl (by kernel_rfl) (by kernel_rfl) (by kernel_rfl) (fun _ _ _ h => h) (Or.inl ⟨by rfl, ?_⟩) (by assumption) ?_
  rotate_left
  · intro w hSw
    go_simp
    try (with_reducible rfl)
  (simp only [Act.put, List.getElem_toArray, List.getElem_cons_succ, List.getElem_cons_zero, List.setIfInBounds_toArray, List.set_cons_zero, List.set_cons_succ])
  refine wpAnyH_take (i := 35) (v := ?_) rfl (by kernel_rfl) (by kernel_rfl) (by kernel_rfl) (fun _ _ _ h => h) (Or.inl ⟨by rfl, ?_⟩) (by assumption) ?_
  rotate_left
  · intro w hSw
    go_simp
    try (with_reducible rfl)
  (simp only [Act.put, List.getElem_toArray, List.getElem_cons_succ, List.getElem_cons_zero, List.setIfInBounds_toArray, List.set_cons_zero, List.set_cons_succ])
  refine wpAnyH_take (i := 36) (v := ?_) rfl (by kernel_rfl) (by kernel_rfl) (by kernel_rfl) (fun _ _ _ h => h) (Or.inl ⟨by rfl, ?_⟩) (by assumption) ?_
  rotate_left
  · intro w hSw
    go_simp
    try (with_reducible rfl)
  (simp only [Act.put, List.getElem_toArray, List.getElem_cons_succ, List.getElem_cons_zero, List.setIfInBounds_toArray, List.set_cons_zero, List.set_cons_succ])
  refine wpAnyH_done (by kernel_rfl) ?_ _
  go_wp2
  go_ret
  exact ⟨rfl, below_drewN (below_next (Below.drew HB05.out) (below_next HBA.out (below_next HBB.out (below_next HBC.out (below_next HBD.out HBF.out))))) _⟩


set_option maxHeartbeats 400000 in
theorem nibJoins_out (a b : ByteArray) (w : World) (h : 500 < a.size ∨ (a.size ≤ 500 ∧ 500 < b.size)) :
    Calls Try.prog 13 #[.string a, .string b] w fun e w' => e = .returned (.bool true) ∧ Below w.heap.size w w' := by
  rcases h with h | ⟨h1, h2⟩
  · have t1 : decide ((500 : Int) < (a.size : Int)) = true := by simp; omega
    go_enter Try.func13, Try.ntmps13
    go_wp2_with (go_at_call 22; refine (alive_calls _).mono ?_; rintro e w1 ⟨rfl, hb1⟩)
    go_ret
    exact ⟨rfl, hb1⟩
  · have t1 : decide ((500 : Int) < (a.size : Int)) = false := by simp; omega
    have t2 : decide ((500 : Int) < (b.size : Int)) = true := by simp; omega
    go_enter Try.func13, Try.ntmps13
    go_wp2_with (go_at_call 22; refine (alive_calls _).mono ?_; rintro e w1 ⟨rfl, hb1⟩)
    go_ret
    exact ⟨rfl, hb1⟩
theorem nibJoins_walk (a : ByteArray) (_ : a.size ≤ maxLen) (b : ByteArray) (_ : b.size ≤ maxLen) {w : World} :
    Calls Try.prog 13 #[.string a, .string b] w fun e w' => e = .returned (.bool true) ∧ Below w.heap.size w w' := by
  by_cases h : a.size ≤ 500 ∧ b.size ≤ 500
  · exact nibJoins_main a b w h.1 h.2
  · exact nibJoins_out a b w (by omega)
end Go.Proofs.Ytflobafmmfigoaa
