/- SLAB: the document's Take, Drop, List and Next come to the program's. -/
import Derived.Test.YtkmkficnkiaajaaDoorSlabRef
namespace Go.Proofs.YtkmkficnkiaajaaDoor
open Go Go.RowKit

theorem rof_calls (n : Nat) (w : World) (hn : n < 18446744073709551616) :
    Calls Tryd.prog 33 #[.int .u64 n] w fun e w' => ∃ C, e = .returned (.tuple #[.agg C, .bool (decide (rightP n))]) ∧ SlabC C (clsS n) (fun k => hasB n (k : Int)) ∧ Below w.heap.size w w' := by
  by_cases h : 196608 ≤ n
  · have hno : ¬ rightP n := fun hr => by have := right_lt hr; omega
    refine (of_big n w hn h).mono ?_
    rintro e w' ⟨rfl, hb⟩
    exact ⟨zeroC, by rw [decide_eq_false hno], of_no hno, hb⟩
  · exact of_small n w (by omega)
theorem cls_zero {n : Nat} (h : rightP n) : clsS n = 0 ↔ n = 0 := by
  unfold clsS
  rw [if_pos h, cls_div h]
  have := h
  unfold rightP at this
  omega
theorem rword_at (C : Array Value) (c r : Nat) (ci : Int) (f : Nat → Bool) (w : World) (hC : SlabC C ci f) (hci : ci = c) (hc : c ≤ 3) (hr : c * 65536 + sumF f 16 = r) :
    Calls Tryd.prog 45 #[.agg C] w fun e w' => e = .returned (.int .u64 (r : Int)) ∧ Below w.heap.size w w' := by
  subst hci hr; exact rword_calls C c f w hC hc
theorem lineSlab : Tryd.prog.underlying 57 = Tryd.prog.underlying 57 := rfl
set_option maxHeartbeats 1600000 in
theorem rtake_no (n : Nat) (c at' : Int) (w : World) (hn : n < 18446744073709551616) (h : ¬ takeP n c at') :
    Calls Tryd.prog 24 #[.int .u64 n, .int .i64 c, .int .i64 at'] w fun e w' => e = .returned (.tuple #[.int .u64 (n : Int), .bool false]) ∧ Below w.heap.size w w' := by
  have HN := Lib.hid hn
  obtain ⟨s, hs⟩ : ∃ s, clsS n = s := ⟨_, rfl⟩
  have HCS := Lib.hid hs
  obtain ⟨b, hb⟩ : ∃ b, blkN c = b := ⟨_, rfl⟩
  have HBB := Lib.hid hb
  by_cases hr : rightP n
  · have HISR := Lib.hid (decide_eq_true hr)
    have hcs : (s ≠ 0 ∧ s ≠ c) ∨ (s = 0 ∧ at' < 0) ∨ (s ≠ 0 ∧ s = c ∧ at' < 0) ∨ (s = 0 ∧ 0 ≤ at' ∧ b ≤ at') ∨ (s ≠ 0 ∧ s = c ∧ 0 ≤ at' ∧ b ≤ at') ∨ (s = 0 ∧ 0 ≤ at' ∧ at' < b ∧ hasB n at' = true) ∨ (s ≠ 0 ∧ s = c ∧ 0 ≤ at' ∧ at' < b ∧ hasB n at' = true) := by
      have hz := cls_zero hr
      rw [hs] at hz
      by_cases h1 : s = 0 ∨ s = c
      · by_cases h2 : at' < 0
        · omega
        · by_cases h3 : b ≤ at'
          · omega
          · cases h4 : hasB n at'
            · exfalso
              apply h
              have hk : knownP c := by
                unfold blkN at hb
                unfold knownP
                by_cases k1 : c = 1
                · exact .inl k1
                · by_cases k2 : c = 2
                  · exact .inr k2
                  · rw [if_neg k1, if_neg k2] at hb; omega
              refine ⟨⟨hr, hk, ?_⟩, by omega, by omega, h4⟩
              rcases h1 with h1 | h1
              · exact .inl (hz.1 h1)
              · right
                unfold clsS at hs
                rw [if_pos hr] at hs
                omega
            · simp only [and_true]; omega
      · omega
    clear h hn hr hs hb
    rcases hcs with ⟨h1, h2⟩ | ⟨h1, h2⟩ | ⟨h1, h2, h3⟩ | ⟨h1, h3, h4⟩ | ⟨h1, h2, h3, h4⟩ | ⟨h1, h3, h4, h5⟩ | ⟨h1, h2, h3, h4, h5⟩
    · have e1 : (s != 0) = true := by simpa using h1
      have e2 : (s != c) = true := by simpa using h2
      clear h1 h2
      go_enter Tryd.func24, Tryd.ntmps24
      go_upto_region 2 with (first | (go_at_call 33; (with_reducible refine (rof_calls n _ HN.out).mono ?_); rintro e w1 ⟨C, rfl, hsc, hb1⟩; rw [HISR.out]; rw [HCS.out] at hsc; have HSC := Lib.hid hsc; have HB1 := Lib.hid hb1; clear hsc hb1) | (refine wpList_store_row rfl 57 (.tmp 8) (.tmp 13) rfl w1.heap.size C rfl rfl 57 zeroC (heap_alloc_new w1 _) (by rw [HSC.out.1]; exact slabSize) HSC.out.1.symm HSC.out.one ?_))
      have hsa : SlabAt ((w1.alloc (.cells #[.int .i64 0, .bool false, .bool false, .bool false, .bool false, .bool false, .bool false, .bool false, .bool false, .bool false, .bool false, .bool false, .bool false, .bool false, .bool false, .bool false, .bool false] 57)).setRow w1.heap.size C) w1.heap.size C := setRow_heap _ _ _ _ _ _ (heap_alloc_new w1 _)
      have hbe : Below w.heap.size w ((w1.alloc (.cells #[.int .i64 0, .bool false, .bool false, .bool false, .bool false, .bool false, .bool false, .bool false, .bool false, .bool false, .bool false, .bool false, .bool false, .bool false, .bool false, .bool false, .bool false] 57)).setRow w1.heap.size C) := below_setRow (HB1.out.alloc HB1.out.size _) HB1.out.size _
      obtain ⟨W, hW⟩ : ∃ W, W = ((w1.alloc (.cells #[.int .i64 0, .bool false, .bool false, .bool false, .bool false, .bool false, .bool false, .bool false, .bool false, .bool false, .bool false, .bool false, .bool false, .bool false, .bool false, .bool false, .bool false] 57)).setRow w1.heap.size C) := ⟨_, rfl⟩
      rw [← hW] at hsa hbe ⊢
      have HG : Hid (w.heap.size ≤ w1.heap.size) := Lib.hid HB1.out.size
      clear hW HB1
      obtain ⟨g, hg⟩ : ∃ g, g = w1.heap.size := ⟨_, rfl⟩
      rw [← hg] at hsa HG ⊢
      clear hg
      have HSA := Lib.hid hsa
      have HBE := Lib.hid hbe
      clear hsa hbe
      have HSZ : Hid ((Tryd.prog.info? 57).map (·.size) = some C.size) := Lib.hid (by rw [HSC.out.1]; exact slabSize)
      have ⟨x0, x1, x2⟩ := HSA.out.cells HSC.out
      have X1 := Lib.hid x1
      have X2 := Lib.hid x2
      clear x1 x2
      go_wp2_with (go_at_call 36; (with_reducible refine (rblocks_at _ b _ HBB.out).mono ?_); rintro e w' ⟨rfl, rfl⟩)
      go_ret2
      exact ⟨rfl, HBE.out⟩
    · have e1 : (s != 0) = false := by simpa using h1
      clear h1
      go_enter Tryd.func24, Tryd.ntmps24
      go_upto_region 2 with (first | (go_at_call 33; (with_reducible refine (rof_calls n _ HN.out).mono ?_); rintro e w1 ⟨C, rfl, hsc, hb1⟩; rw [HISR.out]; rw [HCS.out] at hsc; have HSC := Lib.hid hsc; have HB1 := Lib.hid hb1; clear hsc hb1) | (refine wpList_store_row rfl 57 (.tmp 8) (.tmp 13) rfl w1.heap.size C rfl rfl 57 zeroC (heap_alloc_new w1 _) (by rw [HSC.out.1]; exact slabSize) HSC.out.1.symm HSC.out.one ?_))
      have hsa : SlabAt ((w1.alloc (.cells #[.int .i64 0, .bool false, .bool false, .bool false, .bool false, .bool false, .bool false, .bool false, .bool false, .bool false, .bool false, .bool false, .bool false, .bool false, .bool false, .bool false, .bool false] 57)).setRow w1.heap.size C) w1.heap.size C := setRow_heap _ _ _ _ _ _ (heap_alloc_new w1 _)
      have hbe : Below w.heap.size w ((w1.alloc (.cells #[.int .i64 0, .bool false, .bool false, .bool false, .bool false, .bool false, .bool false, .bool false, .bool false, .bool false, .bool false, .bool false, .bool false, .bool false, .bool false, .bool false, .bool false] 57)).setRow w1.heap.size C) := below_setRow (HB1.out.alloc HB1.out.size _) HB1.out.size _
      obtain ⟨W, hW⟩ : ∃ W, W = ((w1.alloc (.cells #[.int .i64 0, .bool false, .bool false, .bool false, .bool false, .bool false, .bool false, .bool false, .bool false, .bool false, .bool false, .bool false, .bool false, .bool false, .bool false, .bool false, .bool false] 57)).setRow w1.heap.size C) := ⟨_, rfl⟩
      rw [← hW] at hsa hbe ⊢
      have HG : Hid (w.heap.size ≤ w1.heap.size) := Lib.hid HB1.out.size
      clear hW HB1
      obtain ⟨g, hg⟩ : ∃ g, g = w1.heap.size := ⟨_, rfl⟩
      rw [← hg] at hsa HG ⊢
      clear hg
      have HSA := Lib.hid hsa
      have HBE := Lib.hid hbe
      clear hsa hbe
      have HSZ : Hid ((Tryd.prog.info? 57).map (·.size) = some C.size) := Lib.hid (by rw [HSC.out.1]; exact slabSize)
      have ⟨x0, x1, x2⟩ := HSA.out.cells HSC.out
      have X1 := Lib.hid x1
      have X2 := Lib.hid x2
      clear x1 x2
      go_wp2_with (go_at_call 36; (with_reducible refine (rblocks_at _ b _ HBB.out).mono ?_); rintro e w' ⟨rfl, rfl⟩)
      go_ret2
      exact ⟨rfl, HBE.out⟩
    · have e1 : (s != 0) = true := by simpa using h1
      have e2 : (s != c) = false := by simpa using h2
      clear h1 h2
      go_enter Tryd.func24, Tryd.ntmps24
      go_upto_region 2 with (first | (go_at_call 33; (with_reducible refine (rof_calls n _ HN.out).mono ?_); rintro e w1 ⟨C, rfl, hsc, hb1⟩; rw [HISR.out]; rw [HCS.out] at hsc; have HSC := Lib.hid hsc; have HB1 := Lib.hid hb1; clear hsc hb1) | (refine wpList_store_row rfl 57 (.tmp 8) (.tmp 13) rfl w1.heap.size C rfl rfl 57 zeroC (heap_alloc_new w1 _) (by rw [HSC.out.1]; exact slabSize) HSC.out.1.symm HSC.out.one ?_))
      have hsa : SlabAt ((w1.alloc (.cells #[.int .i64 0, .bool false, .bool false, .bool false, .bool false, .bool false, .bool false, .bool false, .bool false, .bool false, .bool false, .bool false, .bool false, .bool false, .bool false, .bool false, .bool false] 57)).setRow w1.heap.size C) w1.heap.size C := setRow_heap _ _ _ _ _ _ (heap_alloc_new w1 _)
      have hbe : Below w.heap.size w ((w1.alloc (.cells #[.int .i64 0, .bool false, .bool false, .bool false, .bool false, .bool false, .bool false, .bool false, .bool false, .bool false, .bool false, .bool false, .bool false, .bool false, .bool false, .bool false, .bool false] 57)).setRow w1.heap.size C) := below_setRow (HB1.out.alloc HB1.out.size _) HB1.out.size _
      obtain ⟨W, hW⟩ : ∃ W, W = ((w1.alloc (.cells #[.int .i64 0, .bool false, .bool false, .bool false, .bool false, .bool false, .bool false, .bool false, .bool false, .bool false, .bool false, .bool false, .bool false, .bool false, .bool false, .bool false, .bool false] 57)).setRow w1.heap.size C) := ⟨_, rfl⟩
      rw [← hW] at hsa hbe ⊢
      have HG : Hid (w.heap.size ≤ w1.heap.size) := Lib.hid HB1.out.size
      clear hW HB1
      obtain ⟨g, hg⟩ : ∃ g, g = w1.heap.size := ⟨_, rfl⟩
      rw [← hg] at hsa HG ⊢
      clear hg
      have HSA := Lib.hid hsa
      have HBE := Lib.hid hbe
      clear hsa hbe
      have HSZ : Hid ((Tryd.prog.info? 57).map (·.size) = some C.size) := Lib.hid (by rw [HSC.out.1]; exact slabSize)
      have ⟨x0, x1, x2⟩ := HSA.out.cells HSC.out
      have X1 := Lib.hid x1
      have X2 := Lib.hid x2
      clear x1 x2
      go_wp2_with (go_at_call 36; (with_reducible refine (rblocks_at _ b _ HBB.out).mono ?_); rintro e w' ⟨rfl, rfl⟩)
      go_ret2
      exact ⟨rfl, HBE.out⟩
    · have e1 : (s != 0) = false := by simpa using h1
      clear h1
      go_enter Tryd.func24, Tryd.ntmps24
      go_upto_region 2 with (first | (go_at_call 33; (with_reducible refine (rof_calls n _ HN.out).mono ?_); rintro e w1 ⟨C, rfl, hsc, hb1⟩; rw [HISR.out]; rw [HCS.out] at hsc; have HSC := Lib.hid hsc; have HB1 := Lib.hid hb1; clear hsc hb1) | (refine wpList_store_row rfl 57 (.tmp 8) (.tmp 13) rfl w1.heap.size C rfl rfl 57 zeroC (heap_alloc_new w1 _) (by rw [HSC.out.1]; exact slabSize) HSC.out.1.symm HSC.out.one ?_))
      have hsa : SlabAt ((w1.alloc (.cells #[.int .i64 0, .bool false, .bool false, .bool false, .bool false, .bool false, .bool false, .bool false, .bool false, .bool false, .bool false, .bool false, .bool false, .bool false, .bool false, .bool false, .bool false] 57)).setRow w1.heap.size C) w1.heap.size C := setRow_heap _ _ _ _ _ _ (heap_alloc_new w1 _)
      have hbe : Below w.heap.size w ((w1.alloc (.cells #[.int .i64 0, .bool false, .bool false, .bool false, .bool false, .bool false, .bool false, .bool false, .bool false, .bool false, .bool false, .bool false, .bool false, .bool false, .bool false, .bool false, .bool false] 57)).setRow w1.heap.size C) := below_setRow (HB1.out.alloc HB1.out.size _) HB1.out.size _
      obtain ⟨W, hW⟩ : ∃ W, W = ((w1.alloc (.cells #[.int .i64 0, .bool false, .bool false, .bool false, .bool false, .bool false, .bool false, .bool false, .bool false, .bool false, .bool false, .bool false, .bool false, .bool false, .bool false, .bool false, .bool false] 57)).setRow w1.heap.size C) := ⟨_, rfl⟩
      rw [← hW] at hsa hbe ⊢
      have HG : Hid (w.heap.size ≤ w1.heap.size) := Lib.hid HB1.out.size
      clear hW HB1
      obtain ⟨g, hg⟩ : ∃ g, g = w1.heap.size := ⟨_, rfl⟩
      rw [← hg] at hsa HG ⊢
      clear hg
      have HSA := Lib.hid hsa
      have HBE := Lib.hid hbe
      clear hsa hbe
      have HSZ : Hid ((Tryd.prog.info? 57).map (·.size) = some C.size) := Lib.hid (by rw [HSC.out.1]; exact slabSize)
      have ⟨x0, x1, x2⟩ := HSA.out.cells HSC.out
      have X1 := Lib.hid x1
      have X2 := Lib.hid x2
      clear x1 x2
      go_wp2_with (go_at_call 36; (with_reducible refine (rblocks_at _ b _ HBB.out).mono ?_); rintro e w' ⟨rfl, rfl⟩)
      go_ret2
      exact ⟨rfl, HBE.out⟩
    · have e1 : (s != 0) = true := by simpa using h1
      have e2 : (s != c) = false := by simpa using h2
      clear h1 h2
      go_enter Tryd.func24, Tryd.ntmps24
      go_upto_region 2 with (first | (go_at_call 33; (with_reducible refine (rof_calls n _ HN.out).mono ?_); rintro e w1 ⟨C, rfl, hsc, hb1⟩; rw [HISR.out]; rw [HCS.out] at hsc; have HSC := Lib.hid hsc; have HB1 := Lib.hid hb1; clear hsc hb1) | (refine wpList_store_row rfl 57 (.tmp 8) (.tmp 13) rfl w1.heap.size C rfl rfl 57 zeroC (heap_alloc_new w1 _) (by rw [HSC.out.1]; exact slabSize) HSC.out.1.symm HSC.out.one ?_))
      have hsa : SlabAt ((w1.alloc (.cells #[.int .i64 0, .bool false, .bool false, .bool false, .bool false, .bool false, .bool false, .bool false, .bool false, .bool false, .bool false, .bool false, .bool false, .bool false, .bool false, .bool false, .bool false] 57)).setRow w1.heap.size C) w1.heap.size C := setRow_heap _ _ _ _ _ _ (heap_alloc_new w1 _)
      have hbe : Below w.heap.size w ((w1.alloc (.cells #[.int .i64 0, .bool false, .bool false, .bool false, .bool false, .bool false, .bool false, .bool false, .bool false, .bool false, .bool false, .bool false, .bool false, .bool false, .bool false, .bool false, .bool false] 57)).setRow w1.heap.size C) := below_setRow (HB1.out.alloc HB1.out.size _) HB1.out.size _
      obtain ⟨W, hW⟩ : ∃ W, W = ((w1.alloc (.cells #[.int .i64 0, .bool false, .bool false, .bool false, .bool false, .bool false, .bool false, .bool false, .bool false, .bool false, .bool false, .bool false, .bool false, .bool false, .bool false, .bool false, .bool false] 57)).setRow w1.heap.size C) := ⟨_, rfl⟩
      rw [← hW] at hsa hbe ⊢
      have HG : Hid (w.heap.size ≤ w1.heap.size) := Lib.hid HB1.out.size
      clear hW HB1
      obtain ⟨g, hg⟩ : ∃ g, g = w1.heap.size := ⟨_, rfl⟩
      rw [← hg] at hsa HG ⊢
      clear hg
      have HSA := Lib.hid hsa
      have HBE := Lib.hid hbe
      clear hsa hbe
      have HSZ : Hid ((Tryd.prog.info? 57).map (·.size) = some C.size) := Lib.hid (by rw [HSC.out.1]; exact slabSize)
      have ⟨x0, x1, x2⟩ := HSA.out.cells HSC.out
      have X1 := Lib.hid x1
      have X2 := Lib.hid x2
      clear x1 x2
      go_wp2_with (go_at_call 36; (with_reducible refine (rblocks_at _ b _ HBB.out).mono ?_); rintro e w' ⟨rfl, rfl⟩)
      go_ret2
      exact ⟨rfl, HBE.out⟩
    · have e1 : (s != 0) = false := by simpa using h1
      clear h1
      obtain ⟨k, rfl⟩ := Int.eq_ofNat_of_zero_le h3
      have HH := Lib.hid h5
      have hk16 : k < 16 := by have hb := HBB.out; unfold blkN at hb; split at hb <;> (try split at hb) <;> omega
      clear h5
      go_enter Tryd.func24, Tryd.ntmps24
      go_upto_region 2 with (first | (go_at_call 33; (with_reducible refine (rof_calls n _ HN.out).mono ?_); rintro e w1 ⟨C, rfl, hsc, hb1⟩; rw [HISR.out]; rw [HCS.out] at hsc; have HSC := Lib.hid hsc; have HB1 := Lib.hid hb1; clear hsc hb1) | (refine wpList_store_row rfl 57 (.tmp 8) (.tmp 13) rfl w1.heap.size C rfl rfl 57 zeroC (heap_alloc_new w1 _) (by rw [HSC.out.1]; exact slabSize) HSC.out.1.symm HSC.out.one ?_))
      have hsa : SlabAt ((w1.alloc (.cells #[.int .i64 0, .bool false, .bool false, .bool false, .bool false, .bool false, .bool false, .bool false, .bool false, .bool false, .bool false, .bool false, .bool false, .bool false, .bool false, .bool false, .bool false] 57)).setRow w1.heap.size C) w1.heap.size C := setRow_heap _ _ _ _ _ _ (heap_alloc_new w1 _)
      have hbe : Below w.heap.size w ((w1.alloc (.cells #[.int .i64 0, .bool false, .bool false, .bool false, .bool false, .bool false, .bool false, .bool false, .bool false, .bool false, .bool false, .bool false, .bool false, .bool false, .bool false, .bool false, .bool false] 57)).setRow w1.heap.size C) := below_setRow (HB1.out.alloc HB1.out.size _) HB1.out.size _
      obtain ⟨W, hW⟩ : ∃ W, W = ((w1.alloc (.cells #[.int .i64 0, .bool false, .bool false, .bool false, .bool false, .bool false, .bool false, .bool false, .bool false, .bool false, .bool false, .bool false, .bool false, .bool false, .bool false, .bool false, .bool false] 57)).setRow w1.heap.size C) := ⟨_, rfl⟩
      rw [← hW] at hsa hbe ⊢
      have HG : Hid (w.heap.size ≤ w1.heap.size) := Lib.hid HB1.out.size
      clear hW HB1
      obtain ⟨g, hg⟩ : ∃ g, g = w1.heap.size := ⟨_, rfl⟩
      rw [← hg] at hsa HG ⊢
      clear hg
      have HSA := Lib.hid hsa
      have HBE := Lib.hid hbe
      clear hsa hbe
      have HSZ : Hid ((Tryd.prog.info? 57).map (·.size) = some C.size) := Lib.hid (by rw [HSC.out.1]; exact slabSize)
      have ⟨x0, x1, x2⟩ := HSA.out.cells HSC.out
      have X1 := Lib.hid x1
      have X2 := Lib.hid x2
      clear x1 x2
      have x3 := X1.out k hk16
      rw [HH.out] at x3
      go_wp2_with (go_at_call 36; (with_reducible refine (rblocks_at _ b _ HBB.out).mono ?_); rintro e w' ⟨rfl, rfl⟩)
      go_ret2
      exact ⟨rfl, HBE.out⟩
    · have e1 : (s != 0) = true := by simpa using h1
      have e2 : (s != c) = false := by simpa using h2
      clear h1 h2
      obtain ⟨k, rfl⟩ := Int.eq_ofNat_of_zero_le h3
      have HH := Lib.hid h5
      have hk16 : k < 16 := by have hb := HBB.out; unfold blkN at hb; split at hb <;> (try split at hb) <;> omega
      clear h5
      go_enter Tryd.func24, Tryd.ntmps24
      go_upto_region 2 with (first | (go_at_call 33; (with_reducible refine (rof_calls n _ HN.out).mono ?_); rintro e w1 ⟨C, rfl, hsc, hb1⟩; rw [HISR.out]; rw [HCS.out] at hsc; have HSC := Lib.hid hsc; have HB1 := Lib.hid hb1; clear hsc hb1) | (refine wpList_store_row rfl 57 (.tmp 8) (.tmp 13) rfl w1.heap.size C rfl rfl 57 zeroC (heap_alloc_new w1 _) (by rw [HSC.out.1]; exact slabSize) HSC.out.1.symm HSC.out.one ?_))
      have hsa : SlabAt ((w1.alloc (.cells #[.int .i64 0, .bool false, .bool false, .bool false, .bool false, .bool false, .bool false, .bool false, .bool false, .bool false, .bool false, .bool false, .bool false, .bool false, .bool false, .bool false, .bool false] 57)).setRow w1.heap.size C) w1.heap.size C := setRow_heap _ _ _ _ _ _ (heap_alloc_new w1 _)
      have hbe : Below w.heap.size w ((w1.alloc (.cells #[.int .i64 0, .bool false, .bool false, .bool false, .bool false, .bool false, .bool false, .bool false, .bool false, .bool false, .bool false, .bool false, .bool false, .bool false, .bool false, .bool false, .bool false] 57)).setRow w1.heap.size C) := below_setRow (HB1.out.alloc HB1.out.size _) HB1.out.size _
      obtain ⟨W, hW⟩ : ∃ W, W = ((w1.alloc (.cells #[.int .i64 0, .bool false, .bool false, .bool false, .bool false, .bool false, .bool false, .bool false, .bool false, .bool false, .bool false, .bool false, .bool false, .bool false, .bool false, .bool false, .bool false] 57)).setRow w1.heap.size C) := ⟨_, rfl⟩
      rw [← hW] at hsa hbe ⊢
      have HG : Hid (w.heap.size ≤ w1.heap.size) := Lib.hid HB1.out.size
      clear hW HB1
      obtain ⟨g, hg⟩ : ∃ g, g = w1.heap.size := ⟨_, rfl⟩
      rw [← hg] at hsa HG ⊢
      clear hg
      have HSA := Lib.hid hsa
      have HBE := Lib.hid hbe
      clear hsa hbe
      have HSZ : Hid ((Tryd.prog.info? 57).map (·.size) = some C.size) := Lib.hid (by rw [HSC.out.1]; exact slabSize)
      have ⟨x0, x1, x2⟩ := HSA.out.cells HSC.out
      have X1 := Lib.hid x1
      have X2 := Lib.hid x2
      clear x1 x2
      have x3 := X1.out k hk16
      rw [HH.out] at x3
      go_wp2_with (go_at_call 36; (with_reducible refine (rblocks_at _ b _ HBB.out).mono ?_); rintro e w' ⟨rfl, rfl⟩)
      go_ret2
      exact ⟨rfl, HBE.out⟩
  · have HISR := Lib.hid (decide_eq_false hr)
    clear h hn hr hs hb
    go_enter Tryd.func24, Tryd.ntmps24
    go_upto_region 2 with (first | (go_at_call 33; (with_reducible refine (rof_calls n _ HN.out).mono ?_); rintro e w1 ⟨C, rfl, hsc, hb1⟩; rw [HISR.out]; rw [HCS.out] at hsc; have HSC := Lib.hid hsc; have HB1 := Lib.hid hb1; clear hsc hb1) | (refine wpList_store_row rfl 57 (.tmp 8) (.tmp 13) rfl w1.heap.size C rfl rfl 57 zeroC (heap_alloc_new w1 _) (by rw [HSC.out.1]; exact slabSize) HSC.out.1.symm HSC.out.one ?_))
    have hsa : SlabAt ((w1.alloc (.cells #[.int .i64 0, .bool false, .bool false, .bool false, .bool false, .bool false, .bool false, .bool false, .bool false, .bool false, .bool false, .bool false, .bool false, .bool false, .bool false, .bool false, .bool false] 57)).setRow w1.heap.size C) w1.heap.size C := setRow_heap _ _ _ _ _ _ (heap_alloc_new w1 _)
    have hbe : Below w.heap.size w ((w1.alloc (.cells #[.int .i64 0, .bool false, .bool false, .bool false, .bool false, .bool false, .bool false, .bool false, .bool false, .bool false, .bool false, .bool false, .bool false, .bool false, .bool false, .bool false, .bool false] 57)).setRow w1.heap.size C) := below_setRow (HB1.out.alloc HB1.out.size _) HB1.out.size _
    obtain ⟨W, hW⟩ : ∃ W, W = ((w1.alloc (.cells #[.int .i64 0, .bool false, .bool false, .bool false, .bool false, .bool false, .bool false, .bool false, .bool false, .bool false, .bool false, .bool false, .bool false, .bool false, .bool false, .bool false, .bool false] 57)).setRow w1.heap.size C) := ⟨_, rfl⟩
    rw [← hW] at hsa hbe ⊢
    have HG : Hid (w.heap.size ≤ w1.heap.size) := Lib.hid HB1.out.size
    clear hW HB1
    obtain ⟨g, hg⟩ : ∃ g, g = w1.heap.size := ⟨_, rfl⟩
    rw [← hg] at hsa HG ⊢
    clear hg
    have HSA := Lib.hid hsa
    have HBE := Lib.hid hbe
    clear hsa hbe
    have HSZ : Hid ((Tryd.prog.info? 57).map (·.size) = some C.size) := Lib.hid (by rw [HSC.out.1]; exact slabSize)
    have ⟨x0, x1, x2⟩ := HSA.out.cells HSC.out
    have X1 := Lib.hid x1
    have X2 := Lib.hid x2
    clear x1 x2
    go_wp2
    go_ret2
    exact ⟨rfl, HBE.out⟩
set_option maxHeartbeats 1600000 in
theorem rtake_yes (n : Nat) (c at' : Int) (w : World) (hn : n < 18446744073709551616) (h : takeP n c at') :
    Calls Tryd.prog 24 #[.int .u64 n, .int .i64 c, .int .i64 at'] w fun e w' => e = .returned (.tuple #[.int .u64 ((takeN n c at' : Nat) : Int), .bool true]) ∧ Below w.heap.size w w' := by
  have HN := Lib.hid hn
  have hr := h.1.1
  have hz := cls_zero hr
  obtain ⟨k, cn, rfl, rfl, hk16, hcn, hr', hd', hbits, hno, _, hcl⟩ := take_tells h
  have HNO : Hid (hasB n (k : Int) = false) := Lib.hid h.2.2.2
  have HLT : Hid ((k : Int) < blkN (cn : Int)) := Lib.hid h.2.2.1
  obtain ⟨r, hr2⟩ : ∃ r, takeN n (cn : Int) (k : Int) = r := ⟨_, rfl⟩
  rw [hr2] at hr' hd' hbits ⊢
  have HW : Hid (cn * 65536 + sumF (fun j => if j = k then true else hasB n (j : Int)) 16 = r) := Lib.hid (by
    obtain ⟨s1, s2⟩ := sum_word cn (fun j => if j = k then true else hasB n (j : Int))
    refine word_ext (by rw [s1, hd']) fun i hi => ?_
    rw [s2 i hi, hbits i hi, hasB_nat hr i hi]
    by_cases e : i = k
    · simp [e]
    · simp [e])
  obtain ⟨s, hs⟩ : ∃ s, clsS n = s := ⟨_, rfl⟩
  have HCS := Lib.hid hs
  have hcs : s = 0 ∨ s ≠ 0 ∧ s = (cn : Int) := by
    rw [hs] at hz
    rcases hcl with e | e
    · exact .inl (hz.2 e)
    · by_cases h0 : s = 0
      · exact .inl h0
      · right
        refine ⟨h0, ?_⟩
        unfold clsS at hs
        rw [if_pos hr, cls_div hr] at hs
        omega
  have HISR := Lib.hid (decide_eq_true hr)
  obtain ⟨b, hb⟩ : ∃ b, blkN (cn : Int) = b := ⟨_, rfl⟩
  have HBB := Lib.hid hb
  have hlt := HLT.out
  rw [hb] at hlt
  have hcn3 : cn ≤ 3 := by omega
  clear h hn hr hz hcl hno hr' hd' hbits hb hr2
  rcases hcs with h1 | ⟨h1, h2⟩
  · have e1 : (s != 0) = false := by simpa using h1
    clear h1
    go_enter Tryd.func24, Tryd.ntmps24
    go_upto_region 2 with (first | (go_at_call 33; (with_reducible refine (rof_calls n _ HN.out).mono ?_); rintro e w1 ⟨C, rfl, hsc, hb1⟩; rw [HISR.out]; rw [HCS.out] at hsc; have HSC := Lib.hid hsc; have HB1 := Lib.hid hb1; clear hsc hb1) | (refine wpList_store_row rfl 57 (.tmp 8) (.tmp 13) rfl w1.heap.size C rfl rfl 57 zeroC (heap_alloc_new w1 _) (by rw [HSC.out.1]; exact slabSize) HSC.out.1.symm HSC.out.one ?_))
    have hsa : SlabAt ((w1.alloc (.cells #[.int .i64 0, .bool false, .bool false, .bool false, .bool false, .bool false, .bool false, .bool false, .bool false, .bool false, .bool false, .bool false, .bool false, .bool false, .bool false, .bool false, .bool false] 57)).setRow w1.heap.size C) w1.heap.size C := setRow_heap _ _ _ _ _ _ (heap_alloc_new w1 _)
    have hbe : Below w.heap.size w ((w1.alloc (.cells #[.int .i64 0, .bool false, .bool false, .bool false, .bool false, .bool false, .bool false, .bool false, .bool false, .bool false, .bool false, .bool false, .bool false, .bool false, .bool false, .bool false, .bool false] 57)).setRow w1.heap.size C) := below_setRow (HB1.out.alloc HB1.out.size _) HB1.out.size _
    obtain ⟨W, hW⟩ : ∃ W, W = ((w1.alloc (.cells #[.int .i64 0, .bool false, .bool false, .bool false, .bool false, .bool false, .bool false, .bool false, .bool false, .bool false, .bool false, .bool false, .bool false, .bool false, .bool false, .bool false, .bool false] 57)).setRow w1.heap.size C) := ⟨_, rfl⟩
    rw [← hW] at hsa hbe ⊢
    have HG : Hid (w.heap.size ≤ w1.heap.size) := Lib.hid HB1.out.size
    clear hW HB1
    obtain ⟨g, hg⟩ : ∃ g, g = w1.heap.size := ⟨_, rfl⟩
    rw [← hg] at hsa HG ⊢
    clear hg
    have HSA := Lib.hid hsa
    have HBE := Lib.hid hbe
    clear hsa hbe
    have HSZ : Hid ((Tryd.prog.info? 57).map (·.size) = some C.size) := Lib.hid (by rw [HSC.out.1]; exact slabSize)
    have ⟨x0, x1, x2⟩ := HSA.out.cells HSC.out
    have X1 := Lib.hid x1
    have X2 := Lib.hid x2
    clear x1 x2
    have x3 := X1.out k hk16
    have y0 := X2.out 0
    have y3 := X2.out (1 + k)
    rw [HNO.out] at x3
    have HC2 := Lib.hid ((HSC.out.setC (cn : Int)).setK k hk16 true (g := fun j => if j = k then true else hasB n (j : Int)) (fun j => rfl))
    have HS2 := Lib.hid ((HSA.out.set 0 (.int .i64 (cn : Int))).set (1 + k) (.bool true))
    have HB2 := Lib.hid ((HBE.out.setCell (p := ⟨g, 0, none⟩) HG.out (.int .i64 (cn : Int))).setCell (p := ⟨g, 1 + k, none⟩) HG.out (.bool true))
    have HSZ2 : Hid ((Tryd.prog.info? 57).map (·.size) = some ((C.setIfInBounds 0 (.int .i64 (cn : Int))).setIfInBounds (1 + k) (.bool true)).size) := Lib.hid (by rw [Array.size_setIfInBounds, Array.size_setIfInBounds]; exact HSZ.out)
    go_wp2_with (first | (go_at_call 36; (with_reducible refine (rblocks_at _ b _ HBB.out).mono ?_); rintro e w' ⟨rfl, rfl⟩) | (refine wpList_load_row rfl 57 (.tmp 8) rfl g rfl 57 _ (0, 0) _ (HS2.out) Tryd.underlying57 rfl HSZ2.out ?_) | (go_at_call 45; refine (rword_at _ cn r _ _ _ HC2.out rfl hcn3 HW.out).mono ?_; rintro e w5 ⟨rfl, hb5⟩))
    go_ret2
    exact ⟨rfl, HB2.out.trans (hb5.mono HB2.out.size)⟩
  · have e1 : (s != 0) = true := by simpa using h1
    have e2 : (s != (cn : Int)) = false := by simpa using h2
    clear h1 h2
    go_enter Tryd.func24, Tryd.ntmps24
    go_upto_region 2 with (first | (go_at_call 33; (with_reducible refine (rof_calls n _ HN.out).mono ?_); rintro e w1 ⟨C, rfl, hsc, hb1⟩; rw [HISR.out]; rw [HCS.out] at hsc; have HSC := Lib.hid hsc; have HB1 := Lib.hid hb1; clear hsc hb1) | (refine wpList_store_row rfl 57 (.tmp 8) (.tmp 13) rfl w1.heap.size C rfl rfl 57 zeroC (heap_alloc_new w1 _) (by rw [HSC.out.1]; exact slabSize) HSC.out.1.symm HSC.out.one ?_))
    have hsa : SlabAt ((w1.alloc (.cells #[.int .i64 0, .bool false, .bool false, .bool false, .bool false, .bool false, .bool false, .bool false, .bool false, .bool false, .bool false, .bool false, .bool false, .bool false, .bool false, .bool false, .bool false] 57)).setRow w1.heap.size C) w1.heap.size C := setRow_heap _ _ _ _ _ _ (heap_alloc_new w1 _)
    have hbe : Below w.heap.size w ((w1.alloc (.cells #[.int .i64 0, .bool false, .bool false, .bool false, .bool false, .bool false, .bool false, .bool false, .bool false, .bool false, .bool false, .bool false, .bool false, .bool false, .bool false, .bool false, .bool false] 57)).setRow w1.heap.size C) := below_setRow (HB1.out.alloc HB1.out.size _) HB1.out.size _
    obtain ⟨W, hW⟩ : ∃ W, W = ((w1.alloc (.cells #[.int .i64 0, .bool false, .bool false, .bool false, .bool false, .bool false, .bool false, .bool false, .bool false, .bool false, .bool false, .bool false, .bool false, .bool false, .bool false, .bool false, .bool false] 57)).setRow w1.heap.size C) := ⟨_, rfl⟩
    rw [← hW] at hsa hbe ⊢
    have HG : Hid (w.heap.size ≤ w1.heap.size) := Lib.hid HB1.out.size
    clear hW HB1
    obtain ⟨g, hg⟩ : ∃ g, g = w1.heap.size := ⟨_, rfl⟩
    rw [← hg] at hsa HG ⊢
    clear hg
    have HSA := Lib.hid hsa
    have HBE := Lib.hid hbe
    clear hsa hbe
    have HSZ : Hid ((Tryd.prog.info? 57).map (·.size) = some C.size) := Lib.hid (by rw [HSC.out.1]; exact slabSize)
    have ⟨x0, x1, x2⟩ := HSA.out.cells HSC.out
    have X1 := Lib.hid x1
    have X2 := Lib.hid x2
    clear x1 x2
    have x3 := X1.out k hk16
    have y0 := X2.out 0
    have y3 := X2.out (1 + k)
    rw [HNO.out] at x3
    have HC2 := Lib.hid ((HSC.out.setC (cn : Int)).setK k hk16 true (g := fun j => if j = k then true else hasB n (j : Int)) (fun j => rfl))
    have HS2 := Lib.hid ((HSA.out.set 0 (.int .i64 (cn : Int))).set (1 + k) (.bool true))
    have HB2 := Lib.hid ((HBE.out.setCell (p := ⟨g, 0, none⟩) HG.out (.int .i64 (cn : Int))).setCell (p := ⟨g, 1 + k, none⟩) HG.out (.bool true))
    have HSZ2 : Hid ((Tryd.prog.info? 57).map (·.size) = some ((C.setIfInBounds 0 (.int .i64 (cn : Int))).setIfInBounds (1 + k) (.bool true)).size) := Lib.hid (by rw [Array.size_setIfInBounds, Array.size_setIfInBounds]; exact HSZ.out)
    go_wp2_with (first | (go_at_call 36; (with_reducible refine (rblocks_at _ b _ HBB.out).mono ?_); rintro e w' ⟨rfl, rfl⟩) | (refine wpList_load_row rfl 57 (.tmp 8) rfl g rfl 57 _ (0, 0) _ (HS2.out) Tryd.underlying57 rfl HSZ2.out ?_) | (go_at_call 45; refine (rword_at _ cn r _ _ _ HC2.out rfl hcn3 HW.out).mono ?_; rintro e w5 ⟨rfl, hb5⟩))
    go_ret2
    exact ⟨rfl, HB2.out.trans (hb5.mono HB2.out.size)⟩
end Go.Proofs.YtkmkficnkiaajaaDoor
