/- SLAB: the document's List, Next and Lines come to the program's. -/
import Derived.Test.YtkmkficnkiaajaaDoorSlabRef2
namespace Go.Proofs.YtkmkficnkiaajaaDoor
open Go Go.RowKit

theorem next_found {n : Nat} {c : Int} (hr : rightP n) (hc : clsS n = 0 ∨ clsS n = c) (k : Nat) (hk : (k : Int) < blkN c) (hall : ∀ j, j < k → hasB n (j : Int) = true) (hno : hasB n (k : Int) = false) : nextS n c = k := by
  have hkn : knownP c ∧ k < 16 := by
    unfold blkN at hk
    unfold knownP
    split at hk
    · omega
    · split at hk <;> omega
  have ho : openP n c := by
    refine ⟨hr, hkn.1, ?_⟩
    rcases hc with e | e
    · exact .inl ((cls_zero hr).1 e)
    · right; unfold clsS at e; rw [if_pos hr] at e; exact e
  have hl : lowN (takN n) = k := by
    refine lowN_unique (by rw [takN_eq]; omega) (fun i hi => ?_) ?_ (by omega)
    · rw [takN_eq, tb_low (by omega), ← hasB_nat hr i (by omega)]; exact hall i hi
    · rw [takN_eq, tb_low hkn.2, ← hasB_nat hr k hkn.2]; exact hno
  have hb : blkN c ≤ 16 := by unfold blkN; split <;> (try split) <;> omega
  unfold nextS lowS
  rw [if_pos ho, hl, if_pos (by omega)]
theorem next_none {n : Nat} {c : Int} (hr : rightP n) (k : Nat) (hk : (k : Int) = blkN c) (hall : ∀ j, j < k → hasB n (j : Int) = true) : nextS n c = -1 := by
  unfold nextS
  by_cases ho : openP n c
  · rw [if_pos ho]
    have hb : blkN c ≤ 16 := by unfold blkN; split <;> (try split) <;> omega
    have hl := lowN_ge (n := takN n) (k := k) (by rw [takN_eq]; omega) (fun i hi => by rw [takN_eq, tb_low (by omega), ← hasB_nat hr i (by omega)]; exact hall i hi) (by omega)
    unfold lowS
    rw [if_neg (by omega)]
  · rw [if_neg ho]
theorem next_other {n : Nat} {c : Int} (h : ¬ rightP n ∨ rightP n ∧ clsS n ≠ 0 ∧ clsS n ≠ c) : nextS n c = -1 := by
  unfold nextS
  refine if_neg fun ho => ?_
  rcases h with h | ⟨hr, h1, h2⟩
  · exact h ho.1
  · rcases ho.2.2 with e | e
    · exact h1 ((cls_zero hr).2 e)
    · apply h2; unfold clsS; rw [if_pos hr]; exact e
set_option maxHeartbeats 1600000 in
theorem rnext_calls (n : Nat) (c : Int) (w : World) (hn : n < 18446744073709551616) :
    Calls Tryd.prog 35 #[.int .u64 n, .int .i64 c] w fun e w' => e = .returned (.int .i64 (nextS n c)) ∧ Below w.heap.size w w' := by
  have HN := Lib.hid hn
  obtain ⟨s, hs⟩ : ∃ s, clsS n = s := ⟨_, rfl⟩
  have HCS := Lib.hid hs
  by_cases hr : rightP n
  · have HISR := Lib.hid (decide_eq_true hr)
    have hcs : (s ≠ 0 ∧ s ≠ c) ∨ s = 0 ∨ (s ≠ 0 ∧ s = c) := by omega
    have HR := Lib.hid hr
    clear hn hr
    rcases hcs with ⟨h1, h2⟩ | h1 | ⟨h1, h2⟩
    · have e1 : (s != 0) = true := by simpa using h1
      have e2 : (s != c) = true := by simpa using h2
      have HX : Hid (nextS n c = -1) := Lib.hid (next_other (.inr ⟨HR.out, by rw [HCS.out]; exact h1, by rw [HCS.out]; exact h2⟩))
      clear h1 h2 hs
      go_enter Tryd.func35, Tryd.ntmps35
      go_upto_region 2 with (first | (go_at_call 33; (with_reducible refine (rof_calls n _ HN.out).mono ?_); rintro e w1 ⟨C, rfl, hsc, hb1⟩; rw [HISR.out]; rw [HCS.out] at hsc; have HSC := Lib.hid hsc; have HB1 := Lib.hid hb1; clear hsc hb1) | (refine wpList_store_row rfl 57 (.tmp 5) (.tmp 11) rfl w1.heap.size C rfl rfl 57 zeroC (heap_alloc_new w1 _) (by rw [HSC.out.1]; exact slabSize) HSC.out.1.symm HSC.out.one ?_))
      have hsa : SlabAt ((w1.alloc (.cells #[.int .i64 0, .bool false, .bool false, .bool false, .bool false, .bool false, .bool false, .bool false, .bool false, .bool false, .bool false, .bool false, .bool false, .bool false, .bool false, .bool false, .bool false] 57)).setRow w1.heap.size C) w1.heap.size C := setRow_heap _ _ _ _ _ _ (heap_alloc_new w1 _)
      have hbe : Below w.heap.size w ((w1.alloc (.cells #[.int .i64 0, .bool false, .bool false, .bool false, .bool false, .bool false, .bool false, .bool false, .bool false, .bool false, .bool false, .bool false, .bool false, .bool false, .bool false, .bool false, .bool false] 57)).setRow w1.heap.size C) := below_setRow (HB1.out.alloc HB1.out.size _) HB1.out.size _
      obtain ⟨W, hW⟩ : ∃ W, W = ((w1.alloc (.cells #[.int .i64 0, .bool false, .bool false, .bool false, .bool false, .bool false, .bool false, .bool false, .bool false, .bool false, .bool false, .bool false, .bool false, .bool false, .bool false, .bool false, .bool false] 57)).setRow w1.heap.size C) := ⟨_, rfl⟩
      rw [← hW] at hsa hbe ⊢
      have HG : Hid (w.heap.size ≤ w1.heap.size) := Lib.hid HB1.out.size
      clear hW HB1
      obtain ⟨g, hg⟩ : ∃ g, g = w1.heap.size := ⟨_, rfl⟩
      rw [← hg] at hsa HG ⊢
      clear hg
      have HSA := Lib.hid hsa
      have HBE := Lib.hid hbe
      clear hsa hbe
      have HSZ : Hid ((Tryd.prog.info? 57).map (·.size) = some C.size) := Lib.hid (by rw [HSC.out.1]; exact slabSize)
      have ⟨x0, x1, x2⟩ := HSA.out.cells HSC.out
      have X1 := Lib.hid x1
      have X2 := Lib.hid x2
      clear x1 x2
      go_wp2
      go_ret
      exact ⟨ret_int HX.out.symm, HBE.out⟩
    · have e1 : (s != 0) = false := by simpa using h1
      have HCC : Hid (clsS n = 0 ∨ clsS n = c) := Lib.hid (.inl (by rw [HCS.out]; exact h1))
      clear h1 hs
      obtain ⟨b, hb⟩ : ∃ b : Nat, blkN c = b := ⟨(blkN c).toNat, by unfold blkN; split <;> (try split) <;> rfl⟩
      have HBB := Lib.hid hb
      have hb16 : b ≤ 16 := by unfold blkN at hb; split at hb <;> (try split at hb) <;> omega
      clear hb
      go_enter Tryd.func35, Tryd.ntmps35
      go_upto_region 2 with (first | (go_at_call 33; (with_reducible refine (rof_calls n _ HN.out).mono ?_); rintro e w1 ⟨C, rfl, hsc, hb1⟩; rw [HISR.out]; rw [HCS.out] at hsc; have HSC := Lib.hid hsc; have HB1 := Lib.hid hb1; clear hsc hb1) | (refine wpList_store_row rfl 57 (.tmp 5) (.tmp 11) rfl w1.heap.size C rfl rfl 57 zeroC (heap_alloc_new w1 _) (by rw [HSC.out.1]; exact slabSize) HSC.out.1.symm HSC.out.one ?_))
      have hsa : SlabAt ((w1.alloc (.cells #[.int .i64 0, .bool false, .bool false, .bool false, .bool false, .bool false, .bool false, .bool false, .bool false, .bool false, .bool false, .bool false, .bool false, .bool false, .bool false, .bool false, .bool false] 57)).setRow w1.heap.size C) w1.heap.size C := setRow_heap _ _ _ _ _ _ (heap_alloc_new w1 _)
      have hbe : Below w.heap.size w ((w1.alloc (.cells #[.int .i64 0, .bool false, .bool false, .bool false, .bool false, .bool false, .bool false, .bool false, .bool false, .bool false, .bool false, .bool false, .bool false, .bool false, .bool false, .bool false, .bool false] 57)).setRow w1.heap.size C) := below_setRow (HB1.out.alloc HB1.out.size _) HB1.out.size _
      obtain ⟨W, hW⟩ : ∃ W, W = ((w1.alloc (.cells #[.int .i64 0, .bool false, .bool false, .bool false, .bool false, .bool false, .bool false, .bool false, .bool false, .bool false, .bool false, .bool false, .bool false, .bool false, .bool false, .bool false, .bool false] 57)).setRow w1.heap.size C) := ⟨_, rfl⟩
      rw [← hW] at hsa hbe ⊢
      have HG : Hid (w.heap.size ≤ w1.heap.size) := Lib.hid HB1.out.size
      clear hW HB1
      obtain ⟨g, hg⟩ : ∃ g, g = w1.heap.size := ⟨_, rfl⟩
      rw [← hg] at hsa HG ⊢
      clear hg
      have HSA := Lib.hid hsa
      have HBE := Lib.hid hbe
      clear hsa hbe
      have HSZ : Hid ((Tryd.prog.info? 57).map (·.size) = some C.size) := Lib.hid (by rw [HSC.out.1]; exact slabSize)
      have ⟨x0, x1, x2⟩ := HSA.out.cells HSC.out
      have X1 := Lib.hid x1
      have X2 := Lib.hid x2
      clear x1 x2
      go_wp2
      go_loop [7] (fun i => ∃ k : Nat, k ≤ b ∧ i = .int .i64 k ∧ ∀ j, j < k → hasB n (j : Int) = true) (fun i => b - (intOf i).toNat)
      case atStart => exact ⟨0, Nat.zero_le _, rfl, fun j hj => absurd hj (by omega)⟩
      case round =>
        obtain ⟨k, hk, rfl, hall⟩ := hrel
        have HALL := Lib.hid hall
        clear hall
        by_cases hlt : k < b
        · have x3 := X1.out k (by omega)
          cases hh : hasB n (k : Int)
          · rw [hh] at x3
            have HX : Hid (nextS n c = (k : Int)) := Lib.hid (next_found HR.out HCC.out k (by rw [HBB.out]; omega) HALL.out hh)
            clear hh
            go_wp2_with (go_at_call 36; (with_reducible refine (rblocks_at _ b _ HBB.out).mono ?_); rintro e w' ⟨rfl, rfl⟩)
            go_ret
            exact ⟨ret_int HX.out.symm, HBE.out⟩
          · rw [hh] at x3
            have HH := Lib.hid hh
            clear hh
            go_wp2_with (go_at_call 36; (with_reducible refine (rblocks_at _ b _ HBB.out).mono ?_); rintro e w' ⟨rfl, rfl⟩)
            go_round
            case rel => exact ⟨k + 1, hlt, by go_num, fun j hj => by (rcases Nat.lt_or_ge j k with h | h); (exact HALL.out j h); (obtain rfl : j = k := by omega); (exact HH.out)⟩
            case measure => simp [intOf]; omega
        · obtain rfl : k = b := by omega
          have HX : Hid (nextS n c = -1) := Lib.hid (next_none HR.out k HBB.out.symm HALL.out)
          go_wp2_with (go_at_call 36; (with_reducible refine (rblocks_at _ k _ HBB.out).mono ?_); rintro e w' ⟨rfl, rfl⟩)
          go_ret
          exact ⟨ret_int HX.out.symm, HBE.out⟩
    · have e1 : (s != 0) = true := by simpa using h1
      have e2 : (s != c) = false := by simpa using h2
      have HCC : Hid (clsS n = 0 ∨ clsS n = c) := Lib.hid (.inr (by rw [HCS.out]; exact h2))
      clear h1 h2 hs
      obtain ⟨b, hb⟩ : ∃ b : Nat, blkN c = b := ⟨(blkN c).toNat, by unfold blkN; split <;> (try split) <;> rfl⟩
      have HBB := Lib.hid hb
      have hb16 : b ≤ 16 := by unfold blkN at hb; split at hb <;> (try split at hb) <;> omega
      clear hb
      go_enter Tryd.func35, Tryd.ntmps35
      go_upto_region 2 with (first | (go_at_call 33; (with_reducible refine (rof_calls n _ HN.out).mono ?_); rintro e w1 ⟨C, rfl, hsc, hb1⟩; rw [HISR.out]; rw [HCS.out] at hsc; have HSC := Lib.hid hsc; have HB1 := Lib.hid hb1; clear hsc hb1) | (refine wpList_store_row rfl 57 (.tmp 5) (.tmp 11) rfl w1.heap.size C rfl rfl 57 zeroC (heap_alloc_new w1 _) (by rw [HSC.out.1]; exact slabSize) HSC.out.1.symm HSC.out.one ?_))
      have hsa : SlabAt ((w1.alloc (.cells #[.int .i64 0, .bool false, .bool false, .bool false, .bool false, .bool false, .bool false, .bool false, .bool false, .bool false, .bool false, .bool false, .bool false, .bool false, .bool false, .bool false, .bool false] 57)).setRow w1.heap.size C) w1.heap.size C := setRow_heap _ _ _ _ _ _ (heap_alloc_new w1 _)
      have hbe : Below w.heap.size w ((w1.alloc (.cells #[.int .i64 0, .bool false, .bool false, .bool false, .bool false, .bool false, .bool false, .bool false, .bool false, .bool false, .bool false, .bool false, .bool false, .bool false, .bool false, .bool false, .bool false] 57)).setRow w1.heap.size C) := below_setRow (HB1.out.alloc HB1.out.size _) HB1.out.size _
      obtain ⟨W, hW⟩ : ∃ W, W = ((w1.alloc (.cells #[.int .i64 0, .bool false, .bool false, .bool false, .bool false, .bool false, .bool false, .bool false, .bool false, .bool false, .bool false, .bool false, .bool false, .bool false, .bool false, .bool false, .bool false] 57)).setRow w1.heap.size C) := ⟨_, rfl⟩
      rw [← hW] at hsa hbe ⊢
      have HG : Hid (w.heap.size ≤ w1.heap.size) := Lib.hid HB1.out.size
      clear hW HB1
      obtain ⟨g, hg⟩ : ∃ g, g = w1.heap.size := ⟨_, rfl⟩
      rw [← hg] at hsa HG ⊢
      clear hg
      have HSA := Lib.hid hsa
      have HBE := Lib.hid hbe
      clear hsa hbe
      have HSZ : Hid ((Tryd.prog.info? 57).map (·.size) = some C.size) := Lib.hid (by rw [HSC.out.1]; exact slabSize)
      have ⟨x0, x1, x2⟩ := HSA.out.cells HSC.out
      have X1 := Lib.hid x1
      have X2 := Lib.hid x2
      clear x1 x2
      go_wp2
      go_loop [7] (fun i => ∃ k : Nat, k ≤ b ∧ i = .int .i64 k ∧ ∀ j, j < k → hasB n (j : Int) = true) (fun i => b - (intOf i).toNat)
      case atStart => exact ⟨0, Nat.zero_le _, rfl, fun j hj => absurd hj (by omega)⟩
      case round =>
        obtain ⟨k, hk, rfl, hall⟩ := hrel
        have HALL := Lib.hid hall
        clear hall
        by_cases hlt : k < b
        · have x3 := X1.out k (by omega)
          cases hh : hasB n (k : Int)
          · rw [hh] at x3
            have HX : Hid (nextS n c = (k : Int)) := Lib.hid (next_found HR.out HCC.out k (by rw [HBB.out]; omega) HALL.out hh)
            clear hh
            go_wp2_with (go_at_call 36; (with_reducible refine (rblocks_at _ b _ HBB.out).mono ?_); rintro e w' ⟨rfl, rfl⟩)
            go_ret
            exact ⟨ret_int HX.out.symm, HBE.out⟩
          · rw [hh] at x3
            have HH := Lib.hid hh
            clear hh
            go_wp2_with (go_at_call 36; (with_reducible refine (rblocks_at _ b _ HBB.out).mono ?_); rintro e w' ⟨rfl, rfl⟩)
            go_round
            case rel => exact ⟨k + 1, hlt, by go_num, fun j hj => by (rcases Nat.lt_or_ge j k with h | h); (exact HALL.out j h); (obtain rfl : j = k := by omega); (exact HH.out)⟩
            case measure => simp [intOf]; omega
        · obtain rfl : k = b := by omega
          have HX : Hid (nextS n c = -1) := Lib.hid (next_none HR.out k HBB.out.symm HALL.out)
          go_wp2_with (go_at_call 36; (with_reducible refine (rblocks_at _ k _ HBB.out).mono ?_); rintro e w' ⟨rfl, rfl⟩)
          go_ret
          exact ⟨ret_int HX.out.symm, HBE.out⟩
  · have HISR := Lib.hid (decide_eq_false hr)
    have HX : Hid (nextS n c = -1) := Lib.hid (next_other (.inl hr))
    clear hn hr hs
    go_enter Tryd.func35, Tryd.ntmps35
    go_upto_region 2 with (first | (go_at_call 33; (with_reducible refine (rof_calls n _ HN.out).mono ?_); rintro e w1 ⟨C, rfl, hsc, hb1⟩; rw [HISR.out]; rw [HCS.out] at hsc; have HSC := Lib.hid hsc; have HB1 := Lib.hid hb1; clear hsc hb1) | (refine wpList_store_row rfl 57 (.tmp 5) (.tmp 11) rfl w1.heap.size C rfl rfl 57 zeroC (heap_alloc_new w1 _) (by rw [HSC.out.1]; exact slabSize) HSC.out.1.symm HSC.out.one ?_))
    have hsa : SlabAt ((w1.alloc (.cells #[.int .i64 0, .bool false, .bool false, .bool false, .bool false, .bool false, .bool false, .bool false, .bool false, .bool false, .bool false, .bool false, .bool false, .bool false, .bool false, .bool false, .bool false] 57)).setRow w1.heap.size C) w1.heap.size C := setRow_heap _ _ _ _ _ _ (heap_alloc_new w1 _)
    have hbe : Below w.heap.size w ((w1.alloc (.cells #[.int .i64 0, .bool false, .bool false, .bool false, .bool false, .bool false, .bool false, .bool false, .bool false, .bool false, .bool false, .bool false, .bool false, .bool false, .bool false, .bool false, .bool false] 57)).setRow w1.heap.size C) := below_setRow (HB1.out.alloc HB1.out.size _) HB1.out.size _
    obtain ⟨W, hW⟩ : ∃ W, W = ((w1.alloc (.cells #[.int .i64 0, .bool false, .bool false, .bool false, .bool false, .bool false, .bool false, .bool false, .bool false, .bool false, .bool false, .bool false, .bool false, .bool false, .bool false, .bool false, .bool false] 57)).setRow w1.heap.size C) := ⟨_, rfl⟩
    rw [← hW] at hsa hbe ⊢
    have HG : Hid (w.heap.size ≤ w1.heap.size) := Lib.hid HB1.out.size
    clear hW HB1
    obtain ⟨g, hg⟩ : ∃ g, g = w1.heap.size := ⟨_, rfl⟩
    rw [← hg] at hsa HG ⊢
    clear hg
    have HSA := Lib.hid hsa
    have HBE := Lib.hid hbe
    clear hsa hbe
    have HSZ : Hid ((Tryd.prog.info? 57).map (·.size) = some C.size) := Lib.hid (by rw [HSC.out.1]; exact slabSize)
    have ⟨x0, x1, x2⟩ := HSA.out.cells HSC.out
    have X1 := Lib.hid x1
    have X2 := Lib.hid x2
    clear x1 x2
    go_wp2
    go_ret
    exact ⟨ret_int HX.out.symm, HBE.out⟩
set_option maxHeartbeats 1600000 in
theorem rlist_calls (n : Nat) (w : World) (hn : n < 18446744073709551616) :
    Calls Tryd.prog 34 #[.int .u64 n] w fun e w' => ∃ v, e = .returned v ∧ Own .i64 3 w' w.heap.size v (listN n) ∧ Below w.heap.size w w' := by
  have HN := Lib.hid hn
  obtain ⟨s, hs⟩ : ∃ s, clsS n = s := ⟨_, rfl⟩
  have HCS := Lib.hid hs
  obtain ⟨p, hp⟩ : ∃ p, decide (rightP n) = p := ⟨_, rfl⟩
  have HISR := Lib.hid hp
  have HX : Hid (partL n 16 = listN n) := Lib.hid rfl
  clear hn hs hp
  go_enter Tryd.func34, Tryd.ntmps34
  go_upto_region 2 with (first | (go_at_call 33; (with_reducible refine (rof_calls n _ HN.out).mono ?_); rintro e w1 ⟨C, rfl, hsc, hb1⟩; rw [HISR.out]; rw [HCS.out] at hsc; have HSC := Lib.hid hsc; have HB1 := Lib.hid hb1; clear hsc hb1) | (refine wpList_store_row rfl 57 (.tmp 3) (.tmp 10) rfl w1.heap.size C rfl rfl 57 zeroC (heap_alloc_new w1 _) (by rw [HSC.out.1]; exact slabSize) HSC.out.1.symm HSC.out.one ?_))
  have hsa : SlabAt ((w1.alloc (.cells #[.int .i64 0, .bool false, .bool false, .bool false, .bool false, .bool false, .bool false, .bool false, .bool false, .bool false, .bool false, .bool false, .bool false, .bool false, .bool false, .bool false, .bool false] 57)).setRow w1.heap.size C) w1.heap.size C := setRow_heap _ _ _ _ _ _ (heap_alloc_new w1 _)
  have hbe : Below w.heap.size w ((w1.alloc (.cells #[.int .i64 0, .bool false, .bool false, .bool false, .bool false, .bool false, .bool false, .bool false, .bool false, .bool false, .bool false, .bool false, .bool false, .bool false, .bool false, .bool false, .bool false] 57)).setRow w1.heap.size C) := below_setRow (HB1.out.alloc HB1.out.size _) HB1.out.size _
  obtain ⟨W, hW⟩ : ∃ W, W = ((w1.alloc (.cells #[.int .i64 0, .bool false, .bool false, .bool false, .bool false, .bool false, .bool false, .bool false, .bool false, .bool false, .bool false, .bool false, .bool false, .bool false, .bool false, .bool false, .bool false] 57)).setRow w1.heap.size C) := ⟨_, rfl⟩
  rw [← hW] at hsa hbe ⊢
  have HG : Hid (w.heap.size ≤ w1.heap.size) := Lib.hid HB1.out.size
  clear hW HB1
  obtain ⟨g, hg⟩ : ∃ g, g = w1.heap.size := ⟨_, rfl⟩
  rw [← hg] at hsa HG ⊢
  clear hg
  have HSA := Lib.hid hsa
  have HBE := Lib.hid hbe
  clear hsa hbe
  have HSZ : Hid ((Tryd.prog.info? 57).map (·.size) = some C.size) := Lib.hid (by rw [HSC.out.1]; exact slabSize)
  have ⟨x0, x1, x2⟩ := HSA.out.cells HSC.out
  have X1 := Lib.hid x1
  have X2 := Lib.hid x2
  clear x1 x2
  go_wp2
  go_loopw [5, 6] (fun v i wr => ∃ k : Nat, k ≤ 16 ∧ i = .int .i64 k ∧ Own .i64 3 wr W.heap.size v (partL n k) ∧ Below W.heap.size W wr) (fun _ i _ => 16 - (intOf i).toNat)
  case atStart => exact ⟨0, Nat.zero_le _, rfl, Own.nil_ _ _ _ _, Below.refl _ _⟩
  case round =>
    obtain ⟨k, hk, rfl, hown, hbw⟩ := hrel
    have HSN := Lib.hid (list_snoc n k)
    have HLL := Lib.hid (part_len n k)
    generalize hL : partL n k = L at *
    have HL := Lib.hid hL
    clear hL
    obtain ⟨a, cap, rfl⟩ := hown.slice
    have HOWN := Lib.hid hown
    have HBW := Lib.hid hbw
    clear hown hbw
    by_cases hlt : k < 16
    · have x3 := X1.out k hlt
      have x4 : wr.cell? ⟨g, 1 + k, none⟩ = some (.bool (hasB n (k : Int))) := (HBW.out.cell (World.block_lt_of_cell? W _ x3)).trans x3
      clear x3
      cases hb : hasB n (k : Int)
      · rw [hb] at HSN x4
        simp only [Bool.false_eq_true, if_false, List.append_nil] at HSN
        clear hb
        go_wp2
        go_roundw
        case rel => exact ⟨k + 1, hlt, by go_num, by rw [HSN.out]; exact HOWN.out, HBW.out⟩
        case measure => simp [intOf]; omega
      · rw [hb] at HSN x4
        simp only [if_true] at HSN
        clear hb
        have HNEW : Hid (Ints .i64 (wr.alloc (.cells #[.int .i64 (k : Int)] 3)) (.slice (some ⟨wr.heap.size, 0, none⟩) 1 1) [(k : Int)]) := Lib.hid (Ints.ofRow (l := [(k : Int)]) (cap := 1) (heap_alloc_new wr _) (by intro q hq; rw [List.mem_singleton] at hq; subst hq; exact wf_i64s (by omega) (by omega)) (by simp) (by simp) (by intro j hj; simp at hj; subst hj; rfl))
        go_wp2_with (at_builtin; refine wpList_grow rfl (.tmp 20) (.tmp 22) 46 rfl rowOfI W.heap.size _ L rfl (HOWN.out.alloc _) _ [(k : Int)] rfl HNEW.out 17 ?c2 ⟨by simp [maxLen], by omega⟩ ?c1 ?_; (case c1 => (have := HBW.out.size; simp; omega)); (case c2 => (have := HLL.out; simp; omega)); intro A4 c4 w4 hown4 hb4)
        go_roundw
        case rel => exact ⟨k + 1, hlt, by go_num, by rw [HSN.out]; exact hown4, (HBW.out.alloc HBW.out.size _).trans hb4⟩
        case measure => simp [intOf]; omega
    · obtain rfl : k = 16 := by omega
      rw [HL.out] at HX
      clear hlt hk
      go_wp2
      go_ret
      exact ⟨_, rfl, by rw [← HX.out]; exact HOWN.out.mono HBE.out.size, HBE.out.trans (HBW.out.mono HBE.out.size)⟩
theorem rlines_calls (c : Int) (w : World) : Calls Tryd.prog 38 #[.int .i64 c] w fun e w' => e = .returned (.int .i64 (linN c)) ∧ w = w' := by
  by_cases h1 : c = 1
  · subst h1
    go_enter Tryd.func38, Tryd.ntmps38
    go_wp2
    go_ret
    exact ⟨rfl, rfl⟩
  · by_cases h2 : c = 2
    · subst h2
      go_enter Tryd.func38, Tryd.ntmps38
      go_wp2
      go_ret
      exact ⟨rfl, rfl⟩
    · have e : linN c = 0 := by unfold linN; rw [if_neg h1, if_neg h2]
      have t1 : (c == 1) = false := by simpa using h1
      have t2 : (c == 2) = false := by simpa using h2
      rw [e]
      clear e h1 h2
      go_enter Tryd.func38, Tryd.ntmps38
      go_wp2
      go_ret
      exact ⟨rfl, rfl⟩
end Go.Proofs.YtkmkficnkiaajaaDoor
