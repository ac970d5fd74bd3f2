/- SLAB: the document's Drop, List and Next come to the program's. -/
import Derived.Test.YtkmkficnkiaajaaDoorSlabRef2
namespace Go.Proofs.YtkmkficnkiaajaaDoor
open Go Go.RowKit

set_option maxHeartbeats 1600000 in
theorem rdrop_no (n : Nat) (at' : Int) (w : World) (hn : n < 18446744073709551616) (h : hasB n at' = false) :
    Calls Tryd.prog 26 #[.int .u64 n, .int .i64 at'] w fun e w' => e = .returned (.tuple #[.int .u64 (n : Int), .bool false]) ∧ Below w.heap.size w w' := by
  have HN := Lib.hid hn
  obtain ⟨s, hs⟩ : ∃ s, clsS n = s := ⟨_, rfl⟩
  have HCS := Lib.hid hs
  by_cases hr : rightP n
  · have HISR := Lib.hid (decide_eq_true hr)
    have hcs : at' < 0 ∨ 16 ≤ at' ∨ (0 ≤ at' ∧ at' < 16) := by omega
    have HH := Lib.hid h
    clear h hn hr hs
    rcases hcs with h1 | h1 | ⟨h1, h2⟩
    · skip
      go_enter Tryd.func26, Tryd.ntmps26
      go_upto_region 2 with (first | (go_at_call 33; (with_reducible refine (rof_calls n _ HN.out).mono ?_); rintro e w1 ⟨C, rfl, hsc, hb1⟩; rw [HISR.out]; rw [HCS.out] at hsc; have HSC := Lib.hid hsc; have HB1 := Lib.hid hb1; clear hsc hb1) | (refine wpList_store_row rfl 57 (.tmp 6) (.tmp 11) rfl w1.heap.size C rfl rfl 57 zeroC (heap_alloc_new w1 _) (by rw [HSC.out.1]; exact slabSize) HSC.out.1.symm HSC.out.one ?_))
      have hsa : SlabAt ((w1.alloc (.cells #[.int .i64 0, .bool false, .bool false, .bool false, .bool false, .bool false, .bool false, .bool false, .bool false, .bool false, .bool false, .bool false, .bool false, .bool false, .bool false, .bool false, .bool false] 57)).setRow w1.heap.size C) w1.heap.size C := setRow_heap _ _ _ _ _ _ (heap_alloc_new w1 _)
      have hbe : Below w.heap.size w ((w1.alloc (.cells #[.int .i64 0, .bool false, .bool false, .bool false, .bool false, .bool false, .bool false, .bool false, .bool false, .bool false, .bool false, .bool false, .bool false, .bool false, .bool false, .bool false, .bool false] 57)).setRow w1.heap.size C) := below_setRow (HB1.out.alloc HB1.out.size _) HB1.out.size _
      obtain ⟨W, hW⟩ : ∃ W, W = ((w1.alloc (.cells #[.int .i64 0, .bool false, .bool false, .bool false, .bool false, .bool false, .bool false, .bool false, .bool false, .bool false, .bool false, .bool false, .bool false, .bool false, .bool false, .bool false, .bool false] 57)).setRow w1.heap.size C) := ⟨_, rfl⟩
      rw [← hW] at hsa hbe ⊢
      have HG : Hid (w.heap.size ≤ w1.heap.size) := Lib.hid HB1.out.size
      clear hW HB1
      obtain ⟨g, hg⟩ : ∃ g, g = w1.heap.size := ⟨_, rfl⟩
      rw [← hg] at hsa HG ⊢
      clear hg
      have HSA := Lib.hid hsa
      have HBE := Lib.hid hbe
      clear hsa hbe
      have HSZ : Hid ((Tryd.prog.info? 57).map (·.size) = some C.size) := Lib.hid (by rw [HSC.out.1]; exact slabSize)
      have ⟨x0, x1, x2⟩ := HSA.out.cells HSC.out
      have X1 := Lib.hid x1
      have X2 := Lib.hid x2
      clear x1 x2
      go_wp2
      go_ret2
      exact ⟨rfl, HBE.out⟩
    · skip
      go_enter Tryd.func26, Tryd.ntmps26
      go_upto_region 2 with (first | (go_at_call 33; (with_reducible refine (rof_calls n _ HN.out).mono ?_); rintro e w1 ⟨C, rfl, hsc, hb1⟩; rw [HISR.out]; rw [HCS.out] at hsc; have HSC := Lib.hid hsc; have HB1 := Lib.hid hb1; clear hsc hb1) | (refine wpList_store_row rfl 57 (.tmp 6) (.tmp 11) rfl w1.heap.size C rfl rfl 57 zeroC (heap_alloc_new w1 _) (by rw [HSC.out.1]; exact slabSize) HSC.out.1.symm HSC.out.one ?_))
      have hsa : SlabAt ((w1.alloc (.cells #[.int .i64 0, .bool false, .bool false, .bool false, .bool false, .bool false, .bool false, .bool false, .bool false, .bool false, .bool false, .bool false, .bool false, .bool false, .bool false, .bool false, .bool false] 57)).setRow w1.heap.size C) w1.heap.size C := setRow_heap _ _ _ _ _ _ (heap_alloc_new w1 _)
      have hbe : Below w.heap.size w ((w1.alloc (.cells #[.int .i64 0, .bool false, .bool false, .bool false, .bool false, .bool false, .bool false, .bool false, .bool false, .bool false, .bool false, .bool false, .bool false, .bool false, .bool false, .bool false, .bool false] 57)).setRow w1.heap.size C) := below_setRow (HB1.out.alloc HB1.out.size _) HB1.out.size _
      obtain ⟨W, hW⟩ : ∃ W, W = ((w1.alloc (.cells #[.int .i64 0, .bool false, .bool false, .bool false, .bool false, .bool false, .bool false, .bool false, .bool false, .bool false, .bool false, .bool false, .bool false, .bool false, .bool false, .bool false, .bool false] 57)).setRow w1.heap.size C) := ⟨_, rfl⟩
      rw [← hW] at hsa hbe ⊢
      have HG : Hid (w.heap.size ≤ w1.heap.size) := Lib.hid HB1.out.size
      clear hW HB1
      obtain ⟨g, hg⟩ : ∃ g, g = w1.heap.size := ⟨_, rfl⟩
      rw [← hg] at hsa HG ⊢
      clear hg
      have HSA := Lib.hid hsa
      have HBE := Lib.hid hbe
      clear hsa hbe
      have HSZ : Hid ((Tryd.prog.info? 57).map (·.size) = some C.size) := Lib.hid (by rw [HSC.out.1]; exact slabSize)
      have ⟨x0, x1, x2⟩ := HSA.out.cells HSC.out
      have X1 := Lib.hid x1
      have X2 := Lib.hid x2
      clear x1 x2
      go_wp2
      go_ret2
      exact ⟨rfl, HBE.out⟩
    · obtain ⟨k, rfl⟩ := Int.eq_ofNat_of_zero_le h1
      have hk16 : k < 16 := by omega
      go_enter Tryd.func26, Tryd.ntmps26
      go_upto_region 2 with (first | (go_at_call 33; (with_reducible refine (rof_calls n _ HN.out).mono ?_); rintro e w1 ⟨C, rfl, hsc, hb1⟩; rw [HISR.out]; rw [HCS.out] at hsc; have HSC := Lib.hid hsc; have HB1 := Lib.hid hb1; clear hsc hb1) | (refine wpList_store_row rfl 57 (.tmp 6) (.tmp 11) rfl w1.heap.size C rfl rfl 57 zeroC (heap_alloc_new w1 _) (by rw [HSC.out.1]; exact slabSize) HSC.out.1.symm HSC.out.one ?_))
      have hsa : SlabAt ((w1.alloc (.cells #[.int .i64 0, .bool false, .bool false, .bool false, .bool false, .bool false, .bool false, .bool false, .bool false, .bool false, .bool false, .bool false, .bool false, .bool false, .bool false, .bool false, .bool false] 57)).setRow w1.heap.size C) w1.heap.size C := setRow_heap _ _ _ _ _ _ (heap_alloc_new w1 _)
      have hbe : Below w.heap.size w ((w1.alloc (.cells #[.int .i64 0, .bool false, .bool false, .bool false, .bool false, .bool false, .bool false, .bool false, .bool false, .bool false, .bool false, .bool false, .bool false, .bool false, .bool false, .bool false, .bool false] 57)).setRow w1.heap.size C) := below_setRow (HB1.out.alloc HB1.out.size _) HB1.out.size _
      obtain ⟨W, hW⟩ : ∃ W, W = ((w1.alloc (.cells #[.int .i64 0, .bool false, .bool false, .bool false, .bool false, .bool false, .bool false, .bool false, .bool false, .bool false, .bool false, .bool false, .bool false, .bool false, .bool false, .bool false, .bool false] 57)).setRow w1.heap.size C) := ⟨_, rfl⟩
      rw [← hW] at hsa hbe ⊢
      have HG : Hid (w.heap.size ≤ w1.heap.size) := Lib.hid HB1.out.size
      clear hW HB1
      obtain ⟨g, hg⟩ : ∃ g, g = w1.heap.size := ⟨_, rfl⟩
      rw [← hg] at hsa HG ⊢
      clear hg
      have HSA := Lib.hid hsa
      have HBE := Lib.hid hbe
      clear hsa hbe
      have HSZ : Hid ((Tryd.prog.info? 57).map (·.size) = some C.size) := Lib.hid (by rw [HSC.out.1]; exact slabSize)
      have ⟨x0, x1, x2⟩ := HSA.out.cells HSC.out
      have X1 := Lib.hid x1
      have X2 := Lib.hid x2
      clear x1 x2
      have x3 := X1.out k hk16
      rw [HH.out] at x3
      go_wp2
      go_ret2
      exact ⟨rfl, HBE.out⟩
  · have HISR := Lib.hid (decide_eq_false hr)
    clear h hn hr hs
    go_enter Tryd.func26, Tryd.ntmps26
    go_upto_region 2 with (first | (go_at_call 33; (with_reducible refine (rof_calls n _ HN.out).mono ?_); rintro e w1 ⟨C, rfl, hsc, hb1⟩; rw [HISR.out]; rw [HCS.out] at hsc; have HSC := Lib.hid hsc; have HB1 := Lib.hid hb1; clear hsc hb1) | (refine wpList_store_row rfl 57 (.tmp 6) (.tmp 11) rfl w1.heap.size C rfl rfl 57 zeroC (heap_alloc_new w1 _) (by rw [HSC.out.1]; exact slabSize) HSC.out.1.symm HSC.out.one ?_))
    have hsa : SlabAt ((w1.alloc (.cells #[.int .i64 0, .bool false, .bool false, .bool false, .bool false, .bool false, .bool false, .bool false, .bool false, .bool false, .bool false, .bool false, .bool false, .bool false, .bool false, .bool false, .bool false] 57)).setRow w1.heap.size C) w1.heap.size C := setRow_heap _ _ _ _ _ _ (heap_alloc_new w1 _)
    have hbe : Below w.heap.size w ((w1.alloc (.cells #[.int .i64 0, .bool false, .bool false, .bool false, .bool false, .bool false, .bool false, .bool false, .bool false, .bool false, .bool false, .bool false, .bool false, .bool false, .bool false, .bool false, .bool false] 57)).setRow w1.heap.size C) := below_setRow (HB1.out.alloc HB1.out.size _) HB1.out.size _
    obtain ⟨W, hW⟩ : ∃ W, W = ((w1.alloc (.cells #[.int .i64 0, .bool false, .bool false, .bool false, .bool false, .bool false, .bool false, .bool false, .bool false, .bool false, .bool false, .bool false, .bool false, .bool false, .bool false, .bool false, .bool false] 57)).setRow w1.heap.size C) := ⟨_, rfl⟩
    rw [← hW] at hsa hbe ⊢
    have HG : Hid (w.heap.size ≤ w1.heap.size) := Lib.hid HB1.out.size
    clear hW HB1
    obtain ⟨g, hg⟩ : ∃ g, g = w1.heap.size := ⟨_, rfl⟩
    rw [← hg] at hsa HG ⊢
    clear hg
    have HSA := Lib.hid hsa
    have HBE := Lib.hid hbe
    clear hsa hbe
    have HSZ : Hid ((Tryd.prog.info? 57).map (·.size) = some C.size) := Lib.hid (by rw [HSC.out.1]; exact slabSize)
    have ⟨x0, x1, x2⟩ := HSA.out.cells HSC.out
    have X1 := Lib.hid x1
    have X2 := Lib.hid x2
    clear x1 x2
    go_wp2
    go_ret2
    exact ⟨rfl, HBE.out⟩
set_option maxHeartbeats 3200000 in
theorem rdrop_yes (n : Nat) (at' : Int) (w : World) (hn : n < 18446744073709551616) (h : hasB n at' = true) :
    Calls Tryd.prog 26 #[.int .u64 n, .int .i64 at'] w fun e w' => e = .returned (.tuple #[.int .u64 ((dropN n at' : Nat) : Int), .bool true]) ∧ Below w.heap.size w w' := by
  have HN := Lib.hid hn
  obtain ⟨k, rfl, hk16, hb, hr, hr', hd', hbits⟩ := drop_tells h
  have HHAS := Lib.hid h
  obtain ⟨r, hr2⟩ : ∃ r, dropN n (k : Int) = r := ⟨_, rfl⟩
  rw [hr2] at hr' hd' hbits ⊢
  obtain ⟨cn, hcn⟩ : ∃ cn, cn = n / 65536 := ⟨_, rfl⟩
  have hcn3 : cn ≤ 3 := by have := right_lt hr; omega
  have hs : clsS n = (cn : Int) := by unfold clsS; rw [if_pos hr, cls_div hr, hcn]
  have HCS := Lib.hid hs
  have hf2 : ∀ j, j < 16 → (if j = k then false else hasB n (j : Int)) = r.testBit j := fun j hj => by
    rw [hbits j hj, hasB_nat hr j hj]
    by_cases e : j = k <;> simp [e]
  have hcnt : cntF (fun j => if j = k then false else hasB n (j : Int)) 16 = 0 ↔ r = 0 := by
    rw [cnt_zero]
    constructor
    · intro h0
      rcases (right_iff r).1 hr' with e | ⟨_, i, hi, hbi⟩ | ⟨_, ⟨i, hi, hbi⟩, _⟩
      · exact e
      · rw [← hf2 i hi, h0 i hi] at hbi; simp at hbi
      · rw [← hf2 i hi, h0 i hi] at hbi; simp at hbi
    · intro e j hj
      rw [hf2 j hj, e]; simp
  obtain ⟨q, hq⟩ : ∃ q, cntF (fun j => if j = k then false else hasB n (j : Int)) 16 = q := ⟨_, rfl⟩
  rw [hq] at hcnt
  have HQ := Lib.hid hq
  have HISR := Lib.hid (decide_eq_true hr)
  have HW0 : Hid (r = 0 → 0 * 65536 + sumF (fun j => if j = k then false else hasB n (j : Int)) 16 = r) := Lib.hid (fun e => by
    obtain ⟨s1, s2⟩ := sum_word 0 (fun j => if j = k then false else hasB n (j : Int))
    refine word_ext (by rw [s1, e]) fun i hi => ?_
    rw [s2 i hi]; exact hf2 i hi)
  have HW1 : Hid (r ≠ 0 → cn * 65536 + sumF (fun j => if j = k then false else hasB n (j : Int)) 16 = r) := Lib.hid (fun e => by
    obtain ⟨s1, s2⟩ := sum_word cn (fun j => if j = k then false else hasB n (j : Int))
    refine word_ext (by rw [s1, hcn, hd'.resolve_left e]) fun i hi => ?_
    rw [s2 i hi]; exact hf2 i hi)
  have hcases : q = 0 ∧ r = 0 ∨ q ≠ 0 ∧ r ≠ 0 := by
    by_cases e : r = 0
    · exact .inl ⟨hcnt.2 e, e⟩
    · exact .inr ⟨fun e' => e (hcnt.1 e'), e⟩
  clear h hn hb hr hr' hd' hbits hr2 hcn hs hf2 hcnt hq
  rcases hcases with ⟨h1, h2⟩ | ⟨h1, h2⟩
  · have e1 : ((q : Int) == 0) = true := by rw [beq_iff_eq]; omega
    have HW := Lib.hid (HW0.out h2)
    clear h1 h2
    go_enter Tryd.func26, Tryd.ntmps26
    go_upto_region 2 with (first | (go_at_call 33; (with_reducible refine (rof_calls n _ HN.out).mono ?_); rintro e w1 ⟨C, rfl, hsc, hb1⟩; rw [HISR.out]; rw [HCS.out] at hsc; have HSC := Lib.hid hsc; have HB1 := Lib.hid hb1; clear hsc hb1) | (refine wpList_store_row rfl 57 (.tmp 6) (.tmp 11) rfl w1.heap.size C rfl rfl 57 zeroC (heap_alloc_new w1 _) (by rw [HSC.out.1]; exact slabSize) HSC.out.1.symm HSC.out.one ?_))
    have hsa : SlabAt ((w1.alloc (.cells #[.int .i64 0, .bool false, .bool false, .bool false, .bool false, .bool false, .bool false, .bool false, .bool false, .bool false, .bool false, .bool false, .bool false, .bool false, .bool false, .bool false, .bool false] 57)).setRow w1.heap.size C) w1.heap.size C := setRow_heap _ _ _ _ _ _ (heap_alloc_new w1 _)
    have hbe : Below w.heap.size w ((w1.alloc (.cells #[.int .i64 0, .bool false, .bool false, .bool false, .bool false, .bool false, .bool false, .bool false, .bool false, .bool false, .bool false, .bool false, .bool false, .bool false, .bool false, .bool false, .bool false] 57)).setRow w1.heap.size C) := below_setRow (HB1.out.alloc HB1.out.size _) HB1.out.size _
    obtain ⟨W, hW⟩ : ∃ W, W = ((w1.alloc (.cells #[.int .i64 0, .bool false, .bool false, .bool false, .bool false, .bool false, .bool false, .bool false, .bool false, .bool false, .bool false, .bool false, .bool false, .bool false, .bool false, .bool false, .bool false] 57)).setRow w1.heap.size C) := ⟨_, rfl⟩
    rw [← hW] at hsa hbe ⊢
    have HG : Hid (w.heap.size ≤ w1.heap.size) := Lib.hid HB1.out.size
    clear hW HB1
    obtain ⟨g, hg⟩ : ∃ g, g = w1.heap.size := ⟨_, rfl⟩
    rw [← hg] at hsa HG ⊢
    clear hg
    have HSA := Lib.hid hsa
    have HBE := Lib.hid hbe
    clear hsa hbe
    have HSZ : Hid ((Tryd.prog.info? 57).map (·.size) = some C.size) := Lib.hid (by rw [HSC.out.1]; exact slabSize)
    have ⟨x0, x1, x2⟩ := HSA.out.cells HSC.out
    have X1 := Lib.hid x1
    have X2 := Lib.hid x2
    clear x1 x2
    have x3 := X1.out k hk16
    have y3 := X2.out (1 + k)
    rw [HHAS.out] at x3
    have HC2 := Lib.hid (HSC.out.setK k hk16 false (g := fun j => if j = k then false else hasB n (j : Int)) (fun j => rfl))
    have HS2 := Lib.hid (HSA.out.set (1 + k) (.bool false))
    have HB2 := Lib.hid (HBE.out.setCell (p := ⟨g, 1 + k, none⟩) HG.out (.bool false))
    have HSZ2 : Hid ((Tryd.prog.info? 57).map (·.size) = some (C.setIfInBounds (1 + k) (.bool false)).size) := Lib.hid (by rw [Array.size_setIfInBounds]; exact HSZ.out)
    go_upto_region 6 with (first | (go_at_call 47; (with_reducible refine (count_at _ _ _ q _ HC2.out HQ.out).mono ?_); rintro e w5 ⟨rfl, hb5⟩; have HS5 := Lib.hid (blk_later' HS2.out hb5); have HB5 := Lib.hid (HB2.out.trans (hb5.mono HB2.out.size)); have HG5 : Hid (w.heap.size ≤ g) := HG; have ⟨z0, z1, z2⟩ := HS5.out.cells HC2.out; have z3 := z2 0; clear hb5 z1 z2) | (refine wpList_load_row rfl 57 (.tmp 6) rfl g rfl 57 _ (0, 0) _ HS2.out Tryd.underlying57 rfl HSZ2.out ?_))
    have HC3 := Lib.hid (HC2.out.setC 0)
    have HS3 := Lib.hid (HS5.out.set 0 (.int .i64 0))
    have HB3 := Lib.hid (HB5.out.setCell (p := ⟨g, 0, none⟩) HG.out (.int .i64 0))
    have HSZ3 : Hid ((Tryd.prog.info? 57).map (·.size) = some ((C.setIfInBounds (1 + k) (.bool false)).setIfInBounds 0 (.int .i64 0)).size) := Lib.hid (by rw [Array.size_setIfInBounds]; exact HSZ2.out)
    go_wp2_with (first | (refine wpList_load_row rfl 57 (.tmp 6) rfl g rfl 57 _ (0, 0) _ HS3.out Tryd.underlying57 rfl HSZ3.out ?_) | (go_at_call 45; refine (rword_at _ 0 r _ _ _ HC3.out rfl (by omega) HW.out).mono ?_; rintro e w6 ⟨rfl, hb6⟩))
    go_ret2
    exact ⟨rfl, HB3.out.trans (hb6.mono HB3.out.size)⟩
  · have e1 : ((q : Int) == 0) = false := by rw [beq_eq_false_iff_ne]; omega
    have HW := Lib.hid (HW1.out h2)
    clear h1 h2
    go_enter Tryd.func26, Tryd.ntmps26
    go_upto_region 2 with (first | (go_at_call 33; (with_reducible refine (rof_calls n _ HN.out).mono ?_); rintro e w1 ⟨C, rfl, hsc, hb1⟩; rw [HISR.out]; rw [HCS.out] at hsc; have HSC := Lib.hid hsc; have HB1 := Lib.hid hb1; clear hsc hb1) | (refine wpList_store_row rfl 57 (.tmp 6) (.tmp 11) rfl w1.heap.size C rfl rfl 57 zeroC (heap_alloc_new w1 _) (by rw [HSC.out.1]; exact slabSize) HSC.out.1.symm HSC.out.one ?_))
    have hsa : SlabAt ((w1.alloc (.cells #[.int .i64 0, .bool false, .bool false, .bool false, .bool false, .bool false, .bool false, .bool false, .bool false, .bool false, .bool false, .bool false, .bool false, .bool false, .bool false, .bool false, .bool false] 57)).setRow w1.heap.size C) w1.heap.size C := setRow_heap _ _ _ _ _ _ (heap_alloc_new w1 _)
    have hbe : Below w.heap.size w ((w1.alloc (.cells #[.int .i64 0, .bool false, .bool false, .bool false, .bool false, .bool false, .bool false, .bool false, .bool false, .bool false, .bool false, .bool false, .bool false, .bool false, .bool false, .bool false, .bool false] 57)).setRow w1.heap.size C) := below_setRow (HB1.out.alloc HB1.out.size _) HB1.out.size _
    obtain ⟨W, hW⟩ : ∃ W, W = ((w1.alloc (.cells #[.int .i64 0, .bool false, .bool false, .bool false, .bool false, .bool false, .bool false, .bool false, .bool false, .bool false, .bool false, .bool false, .bool false, .bool false, .bool false, .bool false, .bool false] 57)).setRow w1.heap.size C) := ⟨_, rfl⟩
    rw [← hW] at hsa hbe ⊢
    have HG : Hid (w.heap.size ≤ w1.heap.size) := Lib.hid HB1.out.size
    clear hW HB1
    obtain ⟨g, hg⟩ : ∃ g, g = w1.heap.size := ⟨_, rfl⟩
    rw [← hg] at hsa HG ⊢
    clear hg
    have HSA := Lib.hid hsa
    have HBE := Lib.hid hbe
    clear hsa hbe
    have HSZ : Hid ((Tryd.prog.info? 57).map (·.size) = some C.size) := Lib.hid (by rw [HSC.out.1]; exact slabSize)
    have ⟨x0, x1, x2⟩ := HSA.out.cells HSC.out
    have X1 := Lib.hid x1
    have X2 := Lib.hid x2
    clear x1 x2
    have x3 := X1.out k hk16
    have y3 := X2.out (1 + k)
    rw [HHAS.out] at x3
    have HC2 := Lib.hid (HSC.out.setK k hk16 false (g := fun j => if j = k then false else hasB n (j : Int)) (fun j => rfl))
    have HS2 := Lib.hid (HSA.out.set (1 + k) (.bool false))
    have HB2 := Lib.hid (HBE.out.setCell (p := ⟨g, 1 + k, none⟩) HG.out (.bool false))
    have HSZ2 : Hid ((Tryd.prog.info? 57).map (·.size) = some (C.setIfInBounds (1 + k) (.bool false)).size) := Lib.hid (by rw [Array.size_setIfInBounds]; exact HSZ.out)
    go_upto_region 7 with (first | (go_at_call 47; (with_reducible refine (count_at _ _ _ q _ HC2.out HQ.out).mono ?_); rintro e w5 ⟨rfl, hb5⟩; have HS5 := Lib.hid (blk_later' HS2.out hb5); have HB5 := Lib.hid (HB2.out.trans (hb5.mono HB2.out.size)); have HG5 : Hid (w.heap.size ≤ g) := HG; have ⟨z0, z1, z2⟩ := HS5.out.cells HC2.out; have z3 := z2 0; clear hb5 z1 z2) | (refine wpList_load_row rfl 57 (.tmp 6) rfl g rfl 57 _ (0, 0) _ HS2.out Tryd.underlying57 rfl HSZ2.out ?_))
    go_wp2_with (first | (refine wpList_load_row rfl 57 (.tmp 6) rfl g rfl 57 _ (0, 0) _ HS5.out Tryd.underlying57 rfl HSZ2.out ?_) | (go_at_call 45; refine (rword_at _ cn r _ _ _ HC2.out rfl hcn3 HW.out).mono ?_; rintro e w6 ⟨rfl, hb6⟩))
    go_ret2
    exact ⟨rfl, HB5.out.trans (hb6.mono HB5.out.size)⟩
end Go.Proofs.YtkmkficnkiaajaaDoor
