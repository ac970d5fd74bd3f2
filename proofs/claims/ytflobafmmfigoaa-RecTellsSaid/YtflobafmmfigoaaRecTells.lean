/- RecTells: THE WALK. -/
import Derived.Test.YtflobafmmfigoaaRecAlive
namespace Go.Proofs.Ytflobafmmfigoaa
open Go Go.RowKit
set_option linter.unusedSimpArgs false

theorem decV_form (o : Option (Int × Int × Bool × ByteArray)) : ∃ s n g t f, decV o = .tuple #[.agg #[.int .u64 s, .int .u64 n, .bool g, .string t], .bool f] := by
  cases o with
  | none => exact ⟨_, _, _, _, _, rfl⟩
  | some r => exact ⟨_, _, _, _, _, rfl⟩
theorem blk_later {w w' : World} {g : Nat} {o : Obj} (h : w.heap[g]? = some o) (hb : Below w.heap.size w w') : w'.heap[g]? = some o :=
  (hb.block g (by
    rcases Nat.lt_or_ge g w.heap.size with h' | h'
    · exact h'
    · rw [Array.getElem?_eq_none h'] at h; simp at h)).trans h
theorem blk_alloc {w : World} {g : Nat} {o : Obj} (h : w.heap[g]? = some o) (x : Obj) : (w.alloc x).heap[g]? = some o := blk_later h ((Below.refl w.heap.size w).alloc (Nat.le_refl _) x)
theorem encL_len (s n : Int) (g : Bool) (t : ByteArray) : (encL s n g t).length ≤ 8 := by unfold encL; split <;> simp [wl]
/-- the cells of a version's block -/
theorem rec_cells {w : World} {R : Nat} {s n : Int} {g : Bool} {t : ByteArray} {ty : TypeId} {fr : Nat × Nat} (h : w.heap[R]? = some (.cells #[.int .u64 s, .int .u64 n, .bool g, .string t] ty fr)) :
    w.cell? ⟨R, 0, none⟩ = some (.int .u64 s) ∧ w.cell? ⟨R, 1, none⟩ = some (.int .u64 n) ∧ w.cell? ⟨R, 2, none⟩ = some (.bool g) ∧ w.cell? ⟨R, 3, none⟩ = some (.string t) :=
  ⟨cell_of_row w R 0 _ _ _ h, cell_of_row w R 1 _ _ _ h, cell_of_row w R 2 _ _ _ h, cell_of_row w R 3 _ _ _ h⟩

set_option maxHeartbeats 1600000 in
theorem recTells_main (s n : Int) (g : Bool) (t : ByteArray) (v : Value) (l : List Int) (w : World) (hs : W64 s) (hn : W64 n) (hI : Ints .u64 w v l) (h1 : t.size ≤ 200) (h2 : l.length ≤ 200) :
    Calls Try.prog 3 #[.agg #[.int .u64 s, .int .u64 n, .bool g, .string t], v] w fun e w' => e = .returned (.bool true) ∧ Below w.heap.size w w' := by
  obtain ⟨a, cap, rfl⟩ := hI.slice
  have t1 : decide ((200 : Int) < (t.size : Int)) = false := by simp; omega
  have t2 : decide ((200 : Int) < (l.length : Int)) = false := by simp; omega
  have HS := Lib.hid hs
  have HN := Lib.hid hn
  have HLT : Hid (w.heap.size < (w.alloc (.cells #[.int .u64 s, .int .u64 n, .bool g, .string t] 24)).heap.size) := Lib.hid (by simp)
  have HB0 := Lib.hid ((Below.refl w.heap.size w).alloc (Nat.le_refl _) (.cells #[.int .u64 s, .int .u64 n, .bool g, .string t] 24))
  have HR0 : Hid ((w.alloc (.cells #[.int .u64 s, .int .u64 n, .bool g, .string t] 24)).heap[w.heap.size]? = some (.cells #[.int .u64 s, .int .u64 n, .bool g, .string t] 24 (0, 0))) := Lib.hid (heap_alloc_new w _)
  have HI0 := Lib.hid (hI.below ((Below.refl w.heap.size w).alloc (Nat.le_refl _) (.cells #[.int .u64 s, .int .u64 n, .bool g, .string t] 24)))
  clear hs hn hI
  go_enter Try.func3, Try.ntmps3
  go_wp2_with fail
  refine (ralive_calls _).mono ?_
  rintro e w1 ⟨rfl, hb1⟩
  have HR1 := Lib.hid (blk_later HR0.out hb1)
  have HI1 := Lib.hid (HI0.out.below hb1)
  have HB1 := Lib.hid (HB0.out.trans (hb1.mono (Nat.le_of_lt HLT.out)))
  have HLT1 : Hid (w.heap.size < w1.heap.size) := Lib.hid (Nat.lt_of_lt_of_le HLT.out hb1.size)
  have ⟨c0, c1, c2, c3⟩ := rec_cells HR1.out
  clear hb1
  go_wp2_with fail
  refine (enc_calls s n g t _ HS.out HN.out).mono ?_
  rintro e w2 ⟨v2, rfl, ho2, hb2⟩
  have hi2 := ho2.ints (Nat.le_trans (encL_len s n g t) (by omega))
  have HO2 := Lib.hid hi2
  have HR2 := Lib.hid (blk_later HR1.out hb2)
  have HI2 := Lib.hid (HI1.out.below hb2)
  have HB2 := Lib.hid (HB1.out.trans (hb2.mono (Nat.le_of_lt HLT1.out)))
  have HLT2 : Hid (w.heap.size < w2.heap.size) := Lib.hid (Nat.lt_of_lt_of_le HLT1.out hb2.size)
  clear c0 c1 c2 c3 ho2 hi2 hb2
  have ⟨c0, c1, c2, c3⟩ := rec_cells HR2.out
  go_wp2_with fail
  refine (renc_calls s n g t _ HS.out HN.out).mono ?_
  rintro e w3 ⟨v3, rfl, ho3, hb3⟩
  have hi3 := ho3.ints (Nat.le_trans (encL_len s n g t) (by omega))
  have HO3 := Lib.hid hi3
  have HO23 := Lib.hid (HO2.out.below hb3)
  have HR3 := Lib.hid (blk_later HR2.out hb3)
  have HI3 := Lib.hid (HI2.out.below hb3)
  have HB3 := Lib.hid (HB2.out.trans (hb3.mono (Nat.le_of_lt HLT2.out)))
  have HLT3 : Hid (w.heap.size < w3.heap.size) := Lib.hid (Nat.lt_of_lt_of_le HLT2.out hb3.size)
  clear c0 c1 c2 c3 ho3 hi3 hb3
  go_wp2_with fail
  obtain ⟨s', n', g', t', f', hdv⟩ := decV_form (decP l)
  have HDV := Lib.hid hdv
  clear hdv
  refine (dec_calls _ _ _ HI3.out).mono ?_
  rintro e w4 ⟨rfl, hb4⟩
  rw [HDV.out]
  have hb4a := hb4.alloc hb4.size (.cells #[.int .u64 s', .int .u64 n', .bool g', .string t'] 29)
  have HO34 := Lib.hid (HO3.out.below hb4a)
  have HO24 := Lib.hid (HO23.out.below hb4a)
  have HR4 := Lib.hid (blk_later HR3.out hb4a)
  have HI4 := Lib.hid (HI3.out.below hb4a)
  have HB4 := Lib.hid (HB3.out.trans (hb4a.mono (Nat.le_of_lt HLT3.out)))
  have HLT4 : Hid (w.heap.size < (w4.alloc (.cells #[.int .u64 s', .int .u64 n', .bool g', .string t'] 29)).heap.size) := Lib.hid (Nat.lt_of_lt_of_le HLT3.out hb4a.size)
  have HQ4 : Hid ((w4.alloc (.cells #[.int .u64 s', .int .u64 n', .bool g', .string t'] 29)).heap[w4.heap.size]? = some (.cells #[.int .u64 s', .int .u64 n', .bool g', .string t'] 29 (0, 0))) := Lib.hid (heap_alloc_new w4 _)
  clear hb4 hb4a
  go_wp2_with fail
  refine (rdec_calls _ _ _ HI4.out).mono ?_
  rintro e w5 ⟨rfl, hb5⟩
  rw [HDV.out]
  have hb5a := hb5.alloc hb5.size (.cells #[.int .u64 s', .int .u64 n', .bool g', .string t'] 24)
  have HO35 := Lib.hid (HO34.out.below hb5a)
  have HO25 := Lib.hid (HO24.out.below hb5a)
  have HR5 := Lib.hid (blk_later HR4.out hb5a)
  have HQ5 := Lib.hid (blk_later HQ4.out hb5a)
  have HB5 := Lib.hid (HB4.out.trans (hb5a.mono (Nat.le_of_lt HLT4.out)))
  have HLT5 : Hid (w.heap.size < (w5.alloc (.cells #[.int .u64 s', .int .u64 n', .bool g', .string t'] 24)).heap.size) := Lib.hid (Nat.lt_of_lt_of_le HLT4.out hb5a.size)
  have HP5 : Hid ((w5.alloc (.cells #[.int .u64 s', .int .u64 n', .bool g', .string t'] 24)).heap[w5.heap.size]? = some (.cells #[.int .u64 s', .int .u64 n', .bool g', .string t'] 24 (0, 0))) := Lib.hid (heap_alloc_new w5 _)
  clear hb5 hb5a
  go_wp2_with fail
  refine wp_region_held_drew (S := (fun W : World => (W.heap[w.heap.size]? = some (.cells #[.int .u64 s, .int .u64 n, .bool g, .string t] 24 (0, 0)) ∧ W.heap[w4.heap.size]? = some (.cells #[.int .u64 s', .int .u64 n', .bool g', .string t'] 29 (0, 0)) ∧ W.heap[w5.heap.size]? = some (.cells #[.int .u64 s', .int .u64 n', .bool g', .string t'] 24 (0, 0))) ∧ Ints .u64 W v2 (encL s n g t) ∧ Ints .u64 W v3 (encL s n g t))) (by kernel_rfl) ?_ (fun hHeld => ?_)
  · (exact ⟨⟨HR5.out, HQ5.out, HP5.out⟩, HO25.out.drew, HO35.out.drew⟩)
  try (change wpAnyH _ _ _ _ _ _ _ _ (World.drew _))
  refine wpAnyH_take (i := 0) (v := ?_) rfl (by kernel_rfl) (by kernel_rfl) (by kernel_rfl) (fun _ _ _ h => h) (Or.inl ⟨by rfl, ?_⟩) (by assumption) ?_
  rotate_left
  · intro w hSw
    (have ⟨r0, r1, r2, r3⟩ := rec_cells hSw.1.1)
    go_simp
    try (with_reducible rfl)
  (simp only [Act.put, List.getElem_toArray, List.getElem_cons_succ, List.getElem_cons_zero, List.setIfInBounds_toArray, List.set_cons_zero, List.set_cons_succ])
  refine wpAnyH_take (i := 2) (v := ?_) rfl (by kernel_rfl) (by kernel_rfl) (by kernel_rfl) (fun _ _ _ h => h) (Or.inl ⟨by rfl, ?_⟩) (by assumption) ?_
  rotate_left
  · intro w hSw
    (have ⟨r0, r1, r2, r3⟩ := rec_cells hSw.1.1)
    go_simp
    try (with_reducible rfl)
  (simp only [Act.put, List.getElem_toArray, List.getElem_cons_succ, List.getElem_cons_zero, List.setIfInBounds_toArray, List.set_cons_zero, List.set_cons_succ])
  refine wpAnyH_ready (rs := [1]) (by kernel_rfl) (by simp) ?_
  refine AllReadyH.cons rfl (fun K hK => ?_) AllReadyH.nil
  go_simp
  (go_wp2_with (go_at_call 19; (with_reducible refine (right_calls s n g t _).mono ?_); rintro e w6 ⟨rfl, hb6⟩; have HB6 := Lib.hid (Below.drew HB5.out |>.trans (hb6.mono (Nat.le_of_lt HLT5.out))); have HBL6 := Lib.hid hb6; have HLT6 := Lib.hid (Nat.lt_of_lt_of_le HLT5.out hb6.size); clear hb6))
  refine hK.out _ _ ?_ ?_
  · (exact ⟨⟨blk_later hHeld.1.1 HBL6.out, blk_later hHeld.1.2.1 HBL6.out, blk_later hHeld.1.2.2 HBL6.out⟩, hHeld.2.1.below HBL6.out, hHeld.2.2.below HBL6.out⟩)
  intro hHeld
  clear hK K
  refine wpAnyH_ready (rs := [3]) (by kernel_rfl) (by simp) ?_
  refine AllReadyH.cons rfl (fun K hK => ?_) AllReadyH.nil
  go_simp
  (go_wp2_with (go_at_call 20; (with_reducible refine (rright_calls s n g t _).mono ?_); rintro e w7 ⟨rfl, hb7⟩; have HB7 := Lib.hid (HB6.out.trans (hb7.mono (Nat.le_of_lt HLT6.out))); have HBL7 := Lib.hid hb7; clear hb7))
  refine hK.out _ _ ?_ ?_
  · (exact ⟨⟨blk_later hHeld.1.1 HBL7.out, blk_later hHeld.1.2.1 HBL7.out, blk_later hHeld.1.2.2 HBL7.out⟩, hHeld.2.1.below HBL7.out, hHeld.2.2.below HBL7.out⟩)
  intro hHeld
  clear hK K
  refine wpAnyH_take (i := 4) (v := ?_) rfl (by kernel_rfl) (by kernel_rfl) (by kernel_rfl) (fun _ _ _ h => h) (Or.inl ⟨by rfl, ?_⟩) (by assumption) ?_
  rotate_left
  · intro w hSw
    go_simp
    try (with_reducible rfl)
  (simp only [Act.put, List.getElem_toArray, List.getElem_cons_succ, List.getElem_cons_zero, List.setIfInBounds_toArray, List.set_cons_zero, List.set_cons_succ])
  refine wpAnyH_take (i := 5) (v := ?_) rfl (by kernel_rfl) (by kernel_rfl) (by kernel_rfl) (fun _ _ _ h => h) (Or.inl ⟨by rfl, ?_⟩) (by assumption) ?_
  rotate_left
  · intro w hSw
    go_simp
    try (with_reducible rfl)
  (simp only [Act.put, List.getElem_toArray, List.getElem_cons_succ, List.getElem_cons_zero, List.setIfInBounds_toArray, List.set_cons_zero, List.set_cons_succ])
  refine wpAnyH_take (i := 6) (v := ?_) rfl (by kernel_rfl) (by kernel_rfl) (by kernel_rfl) (fun _ _ _ h => h) (Or.inl ⟨by rfl, ?_⟩) (by assumption) ?_
  rotate_left
  · intro w hSw
    go_simp
    try (with_reducible rfl)
  (simp only [Act.put, List.getElem_toArray, List.getElem_cons_succ, List.getElem_cons_zero, List.setIfInBounds_toArray, List.set_cons_zero, List.set_cons_succ])
  refine wpAnyH_take (i := 7) (v := ?_) rfl (by kernel_rfl) (by kernel_rfl) (by kernel_rfl) (fun _ _ _ h => h) (Or.inl ⟨by rfl, ?_⟩) (by assumption) ?_
  rotate_left
  · intro w hSw
    go_simp
    try (with_reducible rfl)
  (simp only [Act.put, List.getElem_toArray, List.getElem_cons_succ, List.getElem_cons_zero, List.setIfInBounds_toArray, List.set_cons_zero, List.set_cons_succ])
  refine wpAnyH_ready (rs := [8]) (by kernel_rfl) (by simp) ?_
  refine AllReadyH.cons rfl (fun K hK => ?_) AllReadyH.nil
  go_simp
  (go_wp2_with (go_at_call 21; (with_reducible refine (same_calls _ _ _ _ _ hHeld.2.1 hHeld.2.2).mono ?_); rintro e w8 ⟨rfl, n8, rfl⟩; rw [decide_eq_true (p := encL s n g t = encL s n g t) rfl]))
  refine hK.out _ _ ?_ ?_
  · (exact hHeld)
  intro hHeld
  clear hK K
  refine wpAnyH_take (i := 9) (v := ?_) rfl (by kernel_rfl) (by kernel_rfl) (by kernel_rfl) (fun _ _ _ h => h) (Or.inl ⟨by rfl, ?_⟩) (by assumption) ?_
  rotate_left
  · intro w hSw
    go_simp
    try (with_reducible rfl)
  (simp only [Act.put, List.getElem_toArray, List.getElem_cons_succ, List.getElem_cons_zero, List.setIfInBounds_toArray, List.set_cons_zero, List.set_cons_succ])
  refine wpAnyH_take (i := 10) (v := ?_) rfl (by kernel_rfl) (by kernel_rfl) (by kernel_rfl) (fun _ _ _ h => h) (Or.inl ⟨by rfl, ?_⟩) (by assumption) ?_
  rotate_left
  · intro w hSw
    go_simp
    try (with_reducible rfl)
  (simp only [Act.put, List.getElem_toArray, List.getElem_cons_succ, List.getElem_cons_zero, List.setIfInBounds_toArray, List.set_cons_zero, List.set_cons_succ])
  refine wpAnyH_take (i := 11) (v := ?_) rfl (by kernel_rfl) (by kernel_rfl) (by kernel_rfl) (fun _ _ _ h => h) (Or.inl ⟨by rfl, ?_⟩) (by assumption) ?_
  rotate_left
  · intro w hSw
    go_simp
    try (with_reducible rfl)
  (simp only [Act.put, List.getElem_toArray, List.getElem_cons_succ, List.getElem_cons_zero, List.setIfInBounds_toArray, List.set_cons_zero, List.set_cons_succ])
  refine wpAnyH_take (i := 12) (v := ?_) rfl (by kernel_rfl) (by kernel_rfl) (by kernel_rfl) (fun _ _ _ h => h) (Or.inl ⟨by rfl, ?_⟩) (by assumption) ?_
  rotate_left
  · intro w hSw
    go_simp
    try (with_reducible rfl)
  (simp only [Act.put, List.getElem_toArray, List.getElem_cons_succ, List.getElem_cons_zero, List.setIfInBounds_toArray, List.set_cons_zero, List.set_cons_succ])
  refine wpAnyH_take (i := 13) (v := ?_) rfl (by kernel_rfl) (by kernel_rfl) (by kernel_rfl) (fun _ _ _ h => h) (Or.inl ⟨by rfl, ?_⟩) (by assumption) ?_
  rotate_left
  · intro w hSw
    go_simp
    try (with_reducible rfl)
  (simp only [Act.put, List.getElem_toArray, List.getElem_cons_succ, List.getElem_cons_zero, List.setIfInBounds_toArray, List.set_cons_zero, List.set_cons_succ])
  refine wpAnyH_take (i := 14) (v := ?_) rfl (by kernel_rfl) (by kernel_rfl) (by kernel_rfl) (fun _ _ _ h => h) (Or.inl ⟨by rfl, ?_⟩) (by assumption) ?_
  rotate_left
  · intro w hSw
    go_simp
    try (with_reducible rfl)
  (simp only [Act.put, List.getElem_toArray, List.getElem_cons_succ, List.getElem_cons_zero, List.setIfInBounds_toArray, List.set_cons_zero, List.set_cons_succ])
  refine wpAnyH_take (i := 15) (v := ?_) rfl (by kernel_rfl) (by kernel_rfl) (by kernel_rfl) (fun _ _ _ h => h) (Or.inl ⟨by rfl, ?_⟩) (by assumption) ?_
  rotate_left
  · intro w hSw
    go_simp
    try (with_reducible rfl)
  (simp only [Act.put, List.getElem_toArray, List.getElem_cons_succ, List.getElem_cons_zero, List.setIfInBounds_toArray, List.set_cons_zero, List.set_cons_succ])
  refine wpAnyH_take (i := 16) (v := ?_) rfl (by kernel_rfl) (by kernel_rfl) (by kernel_rfl) (fun _ _ _ h => h) (Or.inl ⟨by rfl, ?_⟩) (by assumption) ?_
  rotate_left
  · intro w hSw
    (have ⟨r0, r1, r2, r3⟩ := rec_cells hSw.1.2.1)
    go_simp
    try (with_reducible rfl)
  (simp only [Act.put, List.getElem_toArray, List.getElem_cons_succ, List.getElem_cons_zero, List.setIfInBounds_toArray, List.set_cons_zero, List.set_cons_succ])
  refine wpAnyH_take (i := 17) (v := ?_) rfl (by kernel_rfl) (by kernel_rfl) (by kernel_rfl) (fun _ _ _ h => h) (Or.inl ⟨by rfl, ?_⟩) (by assumption) ?_
  rotate_left
  · intro w hSw
    (have ⟨r0, r1, r2, r3⟩ := rec_cells hSw.1.2.2)
    go_simp
    try (with_reducible rfl)
  (simp only [Act.put, List.getElem_toArray, List.getElem_cons_succ, List.getElem_cons_zero, List.setIfInBounds_toArray, List.set_cons_zero, List.set_cons_succ])
  refine wpAnyH_take (i := 18) (v := ?_) rfl (by kernel_rfl) (by kernel_rfl) (by kernel_rfl) (fun _ _ _ h => h) (Or.inl ⟨by rfl, ?_⟩) (by assumption) ?_
  rotate_left
  · intro w hSw
    go_simp
    try (with_reducible rfl)
  (simp only [Act.put, List.getElem_toArray, List.getElem_cons_succ, List.getElem_cons_zero, List.setIfInBounds_toArray, List.set_cons_zero, List.set_cons_succ])
  refine wpAnyH_take (i := 19) (v := ?_) rfl (by kernel_rfl) (by kernel_rfl) (by kernel_rfl) (fun _ _ _ h => h) (Or.inl ⟨by rfl, ?_⟩) (by assumption) ?_
  rotate_left
  · intro w hSw
    go_simp
    try (with_reducible rfl)
  (simp only [Act.put, List.getElem_toArray, List.getElem_cons_succ, List.getElem_cons_zero, List.setIfInBounds_toArray, List.set_cons_zero, List.set_cons_succ])
  refine wpAnyH_take (i := 20) (v := ?_) rfl (by kernel_rfl) (by kernel_rfl) (by kernel_rfl) (fun _ _ _ h => h) (Or.inl ⟨by rfl, ?_⟩) (by assumption) ?_
  rotate_left
  · intro w hSw
    go_simp
    try (with_reducible rfl)
  (simp only [Act.put, List.getElem_toArray, List.getElem_cons_succ, List.getElem_cons_zero, List.setIfInBounds_toArray, List.set_cons_zero, List.set_cons_succ])
  refine wpAnyH_take (i := 21) (v := ?_) rfl (by kernel_rfl) (by kernel_rfl) (by kernel_rfl) (fun _ _ _ h => h) (Or.inl ⟨by rfl, ?_⟩) (by assumption) ?_
  rotate_left
  · intro w hSw
    go_simp
    try (with_reducible rfl)
  (simp only [Act.put, List.getElem_toArray, List.getElem_cons_succ, List.getElem_cons_zero, List.setIfInBounds_toArray, List.set_cons_zero, List.set_cons_succ])
  refine wpAnyH_take (i := 22) (v := ?_) rfl (by kernel_rfl) (by kernel_rfl) (by kernel_rfl) (fun _ _ _ h => h) (Or.inl ⟨by rfl, ?_⟩) (by assumption) ?_
  rotate_left
  · intro w hSw
    go_simp
    try (with_reducible rfl)
  (simp only [Act.put, List.getElem_toArray, List.getElem_cons_succ, List.getElem_cons_zero, List.setIfInBounds_toArray, List.set_cons_zero, List.set_cons_succ])
  refine wpAnyH_take (i := 23) (v := ?_) rfl (by kernel_rfl) (by kernel_rfl) (by kernel_rfl) (fun _ _ _ h => h) (Or.inl ⟨by rfl, ?_⟩) (by assumption) ?_
  rotate_left
  · intro w hSw
    go_simp
    try (with_reducible rfl)
  (simp only [Act.put, List.getElem_toArray, List.getElem_cons_succ, List.getElem_cons_zero, List.setIfInBounds_toArray, List.set_cons_zero, List.set_cons_succ])
  refine wpAnyH_take (i := 24) (v := ?_) rfl (by kernel_rfl) (by kernel_rfl) (by kernel_rfl) (fun _ _ _ h => h) (Or.inl ⟨by rfl, ?_⟩) (by assumption) ?_
  rotate_left
  · intro w hSw
    go_simp
    try (with_reducible rfl)
  (simp only [Act.put, List.getElem_toArray, List.getElem_cons_succ, List.getElem_cons_zero, List.setIfInBounds_toArray, List.set_cons_zero, List.set_cons_succ])
  refine wpAnyH_take (i := 25) (v := ?_) rfl (by kernel_rfl) (by kernel_rfl) (by kernel_rfl) (fun _ _ _ h => h) (Or.inl ⟨by rfl, ?_⟩) (by assumption) ?_
  rotate_left
  · intro w hSw
    go_simp
    try (with_reducible rfl)
  (simp only [Act.put, List.getElem_toArray, List.getElem_cons_succ, List.getElem_cons_zero, List.setIfInBounds_toArray, List.set_cons_zero, List.set_cons_succ])
  refine wpAnyH_done (by kernel_rfl) ?_ _
  go_wp2
  go_ret
  exact ⟨rfl, below_drewN HB7.out n8⟩
set_option maxHeartbeats 800000 in
theorem recTells_out (s n : Int) (g : Bool) (t : ByteArray) (v : Value) (l : List Int) (w : World) (hI : Ints .u64 w v l) (h : 200 < t.size ∨ (t.size ≤ 200 ∧ 200 < l.length)) :
    Calls Try.prog 3 #[.agg #[.int .u64 s, .int .u64 n, .bool g, .string t], v] w fun e w' => e = .returned (.bool true) ∧ Below w.heap.size w w' := by
  obtain ⟨a, cap, rfl⟩ := hI.slice
  have HLT : Hid (w.heap.size < (w.alloc (.cells #[.int .u64 s, .int .u64 n, .bool g, .string t] 24)).heap.size) := Lib.hid (by simp)
  have HB0 := Lib.hid ((Below.refl w.heap.size w).alloc (Nat.le_refl _) (.cells #[.int .u64 s, .int .u64 n, .bool g, .string t] 24))
  have HR0 : Hid ((w.alloc (.cells #[.int .u64 s, .int .u64 n, .bool g, .string t] 24)).heap[w.heap.size]? = some (.cells #[.int .u64 s, .int .u64 n, .bool g, .string t] 24 (0, 0))) := Lib.hid (heap_alloc_new w _)
  clear hI
  rcases h with h | ⟨h1, h2⟩
  · have t1 : decide ((200 : Int) < (t.size : Int)) = true := by simp; omega
    go_enter Try.func3, Try.ntmps3
    go_wp2_with (go_at_call 14; refine (ralive_calls _).mono ?_; rintro e w1 ⟨rfl, hb1⟩; have ⟨c0, c1, c2, c3⟩ := rec_cells (blk_later HR0.out hb1))
    go_ret
    exact ⟨rfl, HB0.out.trans (hb1.mono (Nat.le_of_lt HLT.out))⟩
  · have t1 : decide ((200 : Int) < (t.size : Int)) = false := by simp; omega
    have t2 : decide ((200 : Int) < (l.length : Int)) = true := by simp; omega
    go_enter Try.func3, Try.ntmps3
    go_wp2_with (go_at_call 14; refine (ralive_calls _).mono ?_; rintro e w1 ⟨rfl, hb1⟩; have ⟨c0, c1, c2, c3⟩ := rec_cells (blk_later HR0.out hb1))
    go_ret
    exact ⟨rfl, HB0.out.trans (hb1.mono (Nat.le_of_lt HLT.out))⟩
theorem recTells_walk (s n : Int) (g : Bool) (t : ByteArray) (hs : W64 s) (hn : W64 n) (v : Value) (l : List Int) {w : World} (hI : Ints .u64 w v l) :
    Calls Try.prog 3 #[.agg #[.int .u64 s, .int .u64 n, .bool g, .string t], v] w fun e w' => e = .returned (.bool true) ∧ Below w.heap.size w w' := by
  by_cases h : t.size ≤ 200 ∧ l.length ≤ 200
  · exact recTells_main s n g t v l w hs hn hI h.1 h.2
  · exact recTells_out s n g t v l w hI (by omega)
end Go.Proofs.Ytflobafmmfigoaa
