/- MODEL: the walk of ModelClash. -/
import Derived.Test.YtdeecdebhigafaaMdlCommon
namespace Go.Proofs.Ytdeecdebhigafaa
open Go Go.RowKit
set_option linter.unusedSimpArgs false

set_option maxRecDepth 100000 in
set_option maxHeartbeats 4000000 in
theorem modelClash_walk (v u : Value) (cs : List Ct) (s : List Wr) (n m : Nat) (w : World) (hI : Coms w v cs) (hst : ∀ c ∈ cs, c.stamp < 18446744073709551616) (hs : Rows EW w u s) :
    Calls Try.prog 9 #[v, u, .agg #[.int .u64 (n : Int), .int .u64 (m : Int)]] w fun e w' => e = .returned (.bool true) ∧ Below w.heap.size w w' := by
  obtain ⟨a0, q0, rfl⟩ := hI.slice
  have HI := Lib.hid hI
  have HST := Lib.hid hst
  obtain ⟨ads, qs, rfl⟩ := hs.slice
  have Hs := Lib.hid hs
  have HB : Hid (Below w.heap.size w w) := Lib.hid (Below.refl _ _)
  clear hI hst hs
  go_enter Try.func9, Try.ntmps9
  replace HI := Lib.hid (HI.out.alloc (.cells #[.int .u64 (n : Int), .int .u64 (m : Int)] 68))
  replace Hs := Lib.hid (Hs.out.alloc (.cells #[.int .u64 (n : Int), .int .u64 (m : Int)] 68))
  replace HB := Lib.hid (HB.out.alloc HB.out.size (.cells #[.int .u64 (n : Int), .int .u64 (m : Int)] 68))
  have HA : Hid (AtB w.heap.size n m (w.alloc (.cells #[.int .u64 (n : Int), .int .u64 (m : Int)] 68))) := Lib.hid ⟨cell_of_row _ _ _ _ _ _ (heap_alloc_new w _), cell_of_row _ _ _ _ _ _ (heap_alloc_new w _)⟩
  go_wp2_with fail
  refine (alive16_calls _).mono ?_
  rintro e u1 ⟨rfl, hb⟩
  replace HI := Lib.hid (HI.out.below hb)
  replace Hs := Lib.hid (Hs.out.below hb)
  replace HA := Lib.hid (HA.out.below hb)
  replace HB := Lib.hid (HB.out.trans (hb.mono HB.out.size))
  clear hb
  go_wp2_with fail
  refine (few16_calls _ cs _ HI.out).mono ?_
  rintro e u2 ⟨r, rfl, hr, hb⟩
  replace HI := Lib.hid (HI.out.below hb)
  replace Hs := Lib.hid (Hs.out.below hb)
  replace HA := Lib.hid (HA.out.below hb)
  replace HB := Lib.hid (HB.out.trans (hb.mono HB.out.size))
  clear hb
  have HR := Lib.hid hr
  clear hr
  cases r
  · go_wp2
    go_ret
    exact ⟨rfl, HB.out⟩
  have HF : Hid (FewA cs) := Lib.hid (HR.out.1 (by trivial))
  clear HR
  go_wp2_with fail
  refine (few15_calls _ s _ Hs.out).mono ?_
  rintro e u3 ⟨r, rfl, hr, hb⟩
  replace HI := Lib.hid (HI.out.below hb)
  replace Hs := Lib.hid (Hs.out.below hb)
  replace HA := Lib.hid (HA.out.below hb)
  replace HB := Lib.hid (HB.out.trans (hb.mono HB.out.size))
  clear hb
  have HR := Lib.hid hr
  clear hr
  cases r
  · go_wp2
    go_ret
    exact ⟨rfl, HB.out⟩
  have HFs : Hid (FewW s) := Lib.hid (HR.out.1 (by trivial))
  clear HR
  go_wp2_with fail
  refine (rise15_calls _ s _ Hs.out).mono ?_
  rintro e u4 ⟨r, rfl, hr, hb⟩
  replace HI := Lib.hid (HI.out.below hb)
  replace Hs := Lib.hid (Hs.out.below hb)
  replace HA := Lib.hid (HA.out.below hb)
  replace HB := Lib.hid (HB.out.trans (hb.mono HB.out.size))
  clear hb
  have HR := Lib.hid hr
  clear hr
  cases r
  · go_wp2
    go_ret
    exact ⟨rfl, HB.out⟩
  have HRs : Hid (RiseW s) := Lib.hid (HR.out.1 (by trivial))
  clear HR
  have hc0 := HA.out.1
  have hc1 := HA.out.2
  by_cases hle : n ≤ m
  · skip
    go_wp2_with fail
    refine (theirs16_calls _ cs _ HI.out (HF.out.le60) (by have := HF.out.2.1; omega)).mono ?_
    rintro e u5 ⟨vm, rfl, hm, hb⟩
    replace HI := Lib.hid (HI.out.below hb)
    replace Hs := Lib.hid (Hs.out.below hb)
    replace HA := Lib.hid (HA.out.below hb)
    replace HB := Lib.hid (HB.out.trans (hb.mono HB.out.size))
    have HM := Lib.hid (hm)
    clear hb
    clear hm
    obtain ⟨am, qm, rfl⟩ := HM.out.slice
    have HFC : Hid (FewC cs) := Lib.hid (HF.out.fewC HST.out)
    have HRC : Hid (RiseC cs) := Lib.hid HF.out.2.2
    clear hc0 hc1
    go_wp2
    refine wp_region_held_drew (S := (fun W : World => AtB w.heap.size n m W)) (by kernel_rfl) ?_ (fun hHeld => ?_)
    · (exact HA.out)
    try (change wpAnyH _ _ _ _ _ _ _ _ (World.drew _))
    replace HI := Lib.hid HI.out.drew
    replace Hs := Lib.hid Hs.out.drew
    replace HA := Lib.hid HA.out.drew
    replace HM := Lib.hid HM.out.drew
    replace HB := Lib.hid (Below.drew HB.out)
    refine wpAnyH_take (i := 0) (v := ?_) rfl (by kernel_rfl) (by kernel_rfl) (by kernel_rfl) (fun _ _ _ h => h) (Or.inl ⟨by rfl, ?_⟩) (by assumption) ?_
    rotate_left
    · intro w hSw
      go_simp
      try (with_reducible rfl)
    (simp only [Act.put, List.getElem_toArray, List.getElem_cons_succ, List.getElem_cons_zero, List.setIfInBounds_toArray, List.set_cons_zero, List.set_cons_succ])
    refine wpAnyH_take (i := 1) (v := ?_) rfl (by kernel_rfl) (by kernel_rfl) (by kernel_rfl) (fun _ _ _ h => h) (Or.inl ⟨by rfl, ?_⟩) (by assumption) ?_
    rotate_left
    · intro w hSw
      go_simp
      try (with_reducible rfl)
    (simp only [Act.put, List.getElem_toArray, List.getElem_cons_succ, List.getElem_cons_zero, List.setIfInBounds_toArray, List.set_cons_zero, List.set_cons_succ])
    refine wpAnyH_take (i := 3) (v := ?_) rfl (by kernel_rfl) (by kernel_rfl) (by kernel_rfl) (fun _ _ _ h => h) (Or.inl ⟨by rfl, ?_⟩) (by assumption) ?_
    rotate_left
    · intro w hSw
      go_simp
      try (with_reducible rfl)
    (simp only [Act.put, List.getElem_toArray, List.getElem_cons_succ, List.getElem_cons_zero, List.setIfInBounds_toArray, List.set_cons_zero, List.set_cons_succ])
    refine wpAnyH_take (i := 4) (v := ?_) rfl (by kernel_rfl) (by kernel_rfl) (by kernel_rfl) (fun _ _ _ h => h) (Or.inl ⟨by rfl, ?_⟩) (by assumption) ?_
    rotate_left
    · intro w hSw
      (have h1 := hSw.1)
      go_simp
      try (with_reducible rfl)
    (simp only [Act.put, List.getElem_toArray, List.getElem_cons_succ, List.getElem_cons_zero, List.setIfInBounds_toArray, List.set_cons_zero, List.set_cons_succ])
    refine wpAnyH_take (i := 6) (v := ?_) rfl (by kernel_rfl) (by kernel_rfl) (by kernel_rfl) (fun _ _ _ h => h) (Or.inl ⟨by rfl, ?_⟩) (by assumption) ?_
    rotate_left
    · intro w hSw
      go_simp
      try (with_reducible rfl)
    (simp only [Act.put, List.getElem_toArray, List.getElem_cons_succ, List.getElem_cons_zero, List.setIfInBounds_toArray, List.set_cons_zero, List.set_cons_succ])
    refine wpAnyH_take (i := 7) (v := ?_) rfl (by kernel_rfl) (by kernel_rfl) (by kernel_rfl) (fun _ _ _ h => h) (Or.inl ⟨by rfl, ?_⟩) (by assumption) ?_
    rotate_left
    · intro w hSw
      go_simp
      try (with_reducible rfl)
    (simp only [Act.put, List.getElem_toArray, List.getElem_cons_succ, List.getElem_cons_zero, List.setIfInBounds_toArray, List.set_cons_zero, List.set_cons_succ])
    refine wpAnyH_take (i := 9) (v := ?_) rfl (by kernel_rfl) (by kernel_rfl) (by kernel_rfl) (fun _ _ _ h => h) (Or.inl ⟨by rfl, ?_⟩) (by assumption) ?_
    rotate_left
    · intro w hSw
      go_simp
      try (with_reducible rfl)
    (simp only [Act.put, List.getElem_toArray, List.getElem_cons_succ, List.getElem_cons_zero, List.setIfInBounds_toArray, List.set_cons_zero, List.set_cons_succ])
    refine wpAnyH_take (i := 10) (v := ?_) rfl (by kernel_rfl) (by kernel_rfl) (by kernel_rfl) (fun _ _ _ h => h) (Or.inl ⟨by rfl, ?_⟩) (by assumption) ?_
    rotate_left
    · intro w hSw
      (have h1 := hSw.2)
      go_simp
      try (with_reducible rfl)
    (simp only [Act.put, List.getElem_toArray, List.getElem_cons_succ, List.getElem_cons_zero, List.setIfInBounds_toArray, List.set_cons_zero, List.set_cons_succ])
    refine wpAnyH_ready (rs := [2]) (by kernel_rfl) (by simp) ?_
    refine AllReadyH.cons rfl (fun K hK => ?_) AllReadyH.nil
    go_simp
    ((refine (theirs15_calls _ s _ Hs.out HFs.out.2).mono ?_; rintro e u6 ⟨vt, rfl, ht, hb⟩; replace HI := Lib.hid (HI.out.below hb); replace Hs := Lib.hid (Hs.out.below hb); replace HA := Lib.hid (HA.out.below hb); replace HM := Lib.hid (HM.out.below hb); replace HB := Lib.hid (HB.out.trans (hb.mono HB.out.size)); have T1 := Lib.hid (ht.rows (by have := HFs.out.2; omega)); clear hb; clear ht; obtain ⟨axx, qxx, rfl⟩ := T1.out.slice))
    refine hK.out _ _ ?_ ?_
    · (exact HA.out)
    intro hHeld
    clear hK K
    refine wpAnyH_ready (rs := [5]) (by kernel_rfl) (by simp) ?_
    refine AllReadyH.cons rfl (fun K hK => ?_) AllReadyH.nil
    go_simp
    ((refine (clash_calls _ _ cs s n _ HM.out T1.out HRs.out).mono ?_; rintro e u7 ⟨rfl, hb⟩; replace HI := Lib.hid (HI.out.below hb); replace Hs := Lib.hid (Hs.out.below hb); replace HA := Lib.hid (HA.out.below hb); replace HM := Lib.hid (HM.out.below hb); replace T1 := Lib.hid (T1.out.below hb); replace HB := Lib.hid (HB.out.trans (hb.mono HB.out.size)); clear hb))
    refine hK.out _ _ ?_ ?_
    · (exact HA.out)
    intro hHeld
    clear hK K
    refine wpAnyH_ready (rs := [8]) (by kernel_rfl) (by simp) ?_
    refine AllReadyH.cons rfl (fun K hK => ?_) AllReadyH.nil
    go_simp
    ((refine (theirs15_calls _ s _ Hs.out HFs.out.2).mono ?_; rintro e u8 ⟨vt, rfl, ht, hb⟩; replace HI := Lib.hid (HI.out.below hb); replace Hs := Lib.hid (Hs.out.below hb); replace HA := Lib.hid (HA.out.below hb); replace HM := Lib.hid (HM.out.below hb); replace T1 := Lib.hid (T1.out.below hb); replace HB := Lib.hid (HB.out.trans (hb.mono HB.out.size)); have T2 := Lib.hid (ht.rows (by have := HFs.out.2; omega)); clear hb; clear ht; obtain ⟨axx, qxx, rfl⟩ := T2.out.slice))
    refine hK.out _ _ ?_ ?_
    · (exact HA.out)
    intro hHeld
    clear hK K
    refine wpAnyH_ready (rs := [11]) (by kernel_rfl) (by simp) ?_
    refine AllReadyH.cons rfl (fun K hK => ?_) AllReadyH.nil
    go_simp
    ((refine (clash_calls _ _ cs s m _ HM.out T2.out HRs.out).mono ?_; rintro e u9 ⟨rfl, hb⟩; replace HI := Lib.hid (HI.out.below hb); replace Hs := Lib.hid (Hs.out.below hb); replace HA := Lib.hid (HA.out.below hb); replace HM := Lib.hid (HM.out.below hb); replace T1 := Lib.hid (T1.out.below hb); replace T2 := Lib.hid (T2.out.below hb); replace HB := Lib.hid (HB.out.trans (hb.mono HB.out.size)); clear hb))
    refine hK.out _ _ ?_ ?_
    · (exact HA.out)
    intro hHeld
    clear hK K
    clear T1 T2
    refine wpAnyH_take (i := 12) (v := ?_) rfl (by kernel_rfl) (by kernel_rfl) (by kernel_rfl) (fun _ _ _ h => h) (Or.inl ⟨by rfl, ?_⟩) (by assumption) ?_
    rotate_left
    · intro w hSw
      go_simp
      try (with_reducible rfl)
    (simp only [Act.put, List.getElem_toArray, List.getElem_cons_succ, List.getElem_cons_zero, List.setIfInBounds_toArray, List.set_cons_zero, List.set_cons_succ])
    refine wpAnyH_take (i := 13) (v := ?_) rfl (by kernel_rfl) (by kernel_rfl) (by kernel_rfl) (fun _ _ _ h => h) (Or.inl ⟨by rfl, ?_⟩) (by assumption) ?_
    rotate_left
    · intro w hSw
      go_simp
      try (with_reducible rfl)
    (simp only [Act.put, List.getElem_toArray, List.getElem_cons_succ, List.getElem_cons_zero, List.setIfInBounds_toArray, List.set_cons_zero, List.set_cons_succ])
    refine wpAnyH_done (by kernel_rfl) ?_ _
    have HMON : Hid (clashB cs s m = true → clashB cs s n = true) := Lib.hid (clash_mono hle)
    have HN0 : Hid (Coms _ (.slice none 0 0) []) := Lib.hid (⟨[], Rows.nil_ _ _, rfl, fun i x c h => by cases h⟩ : Coms u9 (.slice none 0 0) [])
    have HW0 : Hid (Rows EW u9 (.slice none 0 0) []) := Lib.hid (Rows.nil_ _ _)
    cases hn : clashB cs s n
    · skip
      have hm : clashB cs s m = false := by
        cases hm : clashB cs s m
        · rfl
        · rw [HMON.out hm] at hn; cases hn
      rw [hm]
      clear hm hn
      go_wp2
      refine wp_region_held_drew (S := (fun W : World => AtB w.heap.size n m W)) (by kernel_rfl) ?_ (fun hHeld => ?_)
      · (exact HA.out)
      try (change wpAnyH _ _ _ _ _ _ _ _ (World.drew _))
      replace HI := Lib.hid HI.out.drew
      replace Hs := Lib.hid Hs.out.drew
      replace HA := Lib.hid HA.out.drew
      replace HM := Lib.hid HM.out.drew
      replace HN0 := Lib.hid HN0.out.drew
      replace HW0 := Lib.hid HW0.out.drew
      replace HB := Lib.hid (Below.drew HB.out)
      refine wpAnyH_take (i := 0) (v := ?_) rfl (by kernel_rfl) (by kernel_rfl) (by kernel_rfl) (fun _ _ _ h => h) (Or.inl ⟨by rfl, ?_⟩) (by assumption) ?_
      rotate_left
      · intro w hSw
        go_simp
        try (with_reducible rfl)
      (simp only [Act.put, List.getElem_toArray, List.getElem_cons_succ, List.getElem_cons_zero, List.setIfInBounds_toArray, List.set_cons_zero, List.set_cons_succ])
      refine wpAnyH_take (i := 1) (v := ?_) rfl (by kernel_rfl) (by kernel_rfl) (by kernel_rfl) (fun _ _ _ h => h) (Or.inl ⟨by rfl, ?_⟩) (by assumption) ?_
      rotate_left
      · intro w hSw
        go_simp
        try (with_reducible rfl)
      (simp only [Act.put, List.getElem_toArray, List.getElem_cons_succ, List.getElem_cons_zero, List.setIfInBounds_toArray, List.set_cons_zero, List.set_cons_succ])
      refine wpAnyH_take (i := 2) (v := ?_) rfl (by kernel_rfl) (by kernel_rfl) (by kernel_rfl) (fun _ _ _ h => h) (Or.inl ⟨by rfl, ?_⟩) (by assumption) ?_
      rotate_left
      · intro w hSw
        go_simp
        try (with_reducible rfl)
      (simp only [Act.put, List.getElem_toArray, List.getElem_cons_succ, List.getElem_cons_zero, List.setIfInBounds_toArray, List.set_cons_zero, List.set_cons_succ])
      refine wpAnyH_take (i := 3) (v := ?_) rfl (by kernel_rfl) (by kernel_rfl) (by kernel_rfl) (fun _ _ _ h => h) (Or.inl ⟨by rfl, ?_⟩) (by assumption) ?_
      rotate_left
      · intro w hSw
        go_simp
        try (with_reducible rfl)
      (simp only [Act.put, List.getElem_toArray, List.getElem_cons_succ, List.getElem_cons_zero, List.setIfInBounds_toArray, List.set_cons_zero, List.set_cons_succ])
      refine wpAnyH_take (i := 4) (v := ?_) rfl (by kernel_rfl) (by kernel_rfl) (by kernel_rfl) (fun _ _ _ h => h) (Or.inl ⟨by rfl, ?_⟩) (by assumption) ?_
      rotate_left
      · intro w hSw
        go_simp
        try (with_reducible rfl)
      (simp only [Act.put, List.getElem_toArray, List.getElem_cons_succ, List.getElem_cons_zero, List.setIfInBounds_toArray, List.set_cons_zero, List.set_cons_succ])
      refine wpAnyH_take (i := 5) (v := ?_) rfl (by kernel_rfl) (by kernel_rfl) (by kernel_rfl) (fun _ _ _ h => h) (Or.inl ⟨by rfl, ?_⟩) (by assumption) ?_
      rotate_left
      · intro w hSw
        go_simp
        try (with_reducible rfl)
      (simp only [Act.put, List.getElem_toArray, List.getElem_cons_succ, List.getElem_cons_zero, List.setIfInBounds_toArray, List.set_cons_zero, List.set_cons_succ])
      refine wpAnyH_take (i := 6) (v := ?_) rfl (by kernel_rfl) (by kernel_rfl) (by kernel_rfl) (fun _ _ _ h => h) (Or.inl ⟨by rfl, ?_⟩) (by assumption) ?_
      rotate_left
      · intro w hSw
        go_simp
        try (with_reducible rfl)
      (simp only [Act.put, List.getElem_toArray, List.getElem_cons_succ, List.getElem_cons_zero, List.setIfInBounds_toArray, List.set_cons_zero, List.set_cons_succ])
      refine wpAnyH_take (i := 7) (v := ?_) rfl (by kernel_rfl) (by kernel_rfl) (by kernel_rfl) (fun _ _ _ h => h) (Or.inl ⟨by rfl, ?_⟩) (by assumption) ?_
      rotate_left
      · intro w hSw
        go_simp
        try (with_reducible rfl)
      (simp only [Act.put, List.getElem_toArray, List.getElem_cons_succ, List.getElem_cons_zero, List.setIfInBounds_toArray, List.set_cons_zero, List.set_cons_succ])
      refine wpAnyH_take (i := 8) (v := ?_) rfl (by kernel_rfl) (by kernel_rfl) (by kernel_rfl) (fun _ _ _ h => h) (Or.inl ⟨by rfl, ?_⟩) (by assumption) ?_
      rotate_left
      · intro w hSw
        (have h1 := hSw.1)
        go_simp
        try (with_reducible rfl)
      (simp only [Act.put, List.getElem_toArray, List.getElem_cons_succ, List.getElem_cons_zero, List.setIfInBounds_toArray, List.set_cons_zero, List.set_cons_succ])
      refine wpAnyH_ready (rs := [9]) (by kernel_rfl) (by simp) ?_
      refine AllReadyH.cons rfl (fun K hK => ?_) AllReadyH.nil
      go_simp
      ((refine (clash_calls _ _ cs [] n _ HM.out HW0.out rise_nil).mono ?_; rintro e u10 ⟨rfl, hb⟩; replace HI := Lib.hid (HI.out.below hb); replace Hs := Lib.hid (Hs.out.below hb); replace HA := Lib.hid (HA.out.below hb); replace HM := Lib.hid (HM.out.below hb); replace HN0 := Lib.hid (HN0.out.below hb); replace HW0 := Lib.hid (HW0.out.below hb); replace HB := Lib.hid (HB.out.trans (hb.mono HB.out.size)); clear hb; rw [clash_nothing]))
      refine hK.out _ _ ?_ ?_
      · (exact HA.out)
      intro hHeld
      clear hK K
      refine wpAnyH_take (i := 10) (v := ?_) rfl (by kernel_rfl) (by kernel_rfl) (by kernel_rfl) (fun _ _ _ h => h) (Or.inl ⟨by rfl, ?_⟩) (by assumption) ?_
      rotate_left
      · intro w hSw
        go_simp
        try (with_reducible rfl)
      (simp only [Act.put, List.getElem_toArray, List.getElem_cons_succ, List.getElem_cons_zero, List.setIfInBounds_toArray, List.set_cons_zero, List.set_cons_succ])
      refine wpAnyH_take (i := 11) (v := ?_) rfl (by kernel_rfl) (by kernel_rfl) (by kernel_rfl) (fun _ _ _ h => h) (Or.inl ⟨by rfl, ?_⟩) (by assumption) ?_
      rotate_left
      · intro w hSw
        go_simp
        try (with_reducible rfl)
      (simp only [Act.put, List.getElem_toArray, List.getElem_cons_succ, List.getElem_cons_zero, List.setIfInBounds_toArray, List.set_cons_zero, List.set_cons_succ])
      refine wpAnyH_take (i := 12) (v := ?_) rfl (by kernel_rfl) (by kernel_rfl) (by kernel_rfl) (fun _ _ _ h => h) (Or.inl ⟨by rfl, ?_⟩) (by assumption) ?_
      rotate_left
      · intro w hSw
        go_simp
        try (with_reducible rfl)
      (simp only [Act.put, List.getElem_toArray, List.getElem_cons_succ, List.getElem_cons_zero, List.setIfInBounds_toArray, List.set_cons_zero, List.set_cons_succ])
      refine wpAnyH_take (i := 13) (v := ?_) rfl (by kernel_rfl) (by kernel_rfl) (by kernel_rfl) (fun _ _ _ h => h) (Or.inl ⟨by rfl, ?_⟩) (by assumption) ?_
      rotate_left
      · intro w hSw
        go_simp
        try (with_reducible rfl)
      (simp only [Act.put, List.getElem_toArray, List.getElem_cons_succ, List.getElem_cons_zero, List.setIfInBounds_toArray, List.set_cons_zero, List.set_cons_succ])
      refine wpAnyH_take (i := 15) (v := ?_) rfl (by kernel_rfl) (by kernel_rfl) (by kernel_rfl) (fun _ _ _ h => h) (Or.inl ⟨by rfl, ?_⟩) (by assumption) ?_
      rotate_left
      · intro w hSw
        go_simp
        try (with_reducible rfl)
      (simp only [Act.put, List.getElem_toArray, List.getElem_cons_succ, List.getElem_cons_zero, List.setIfInBounds_toArray, List.set_cons_zero, List.set_cons_succ])
      refine wpAnyH_take (i := 16) (v := ?_) rfl (by kernel_rfl) (by kernel_rfl) (by kernel_rfl) (fun _ _ _ h => h) (Or.inl ⟨by rfl, ?_⟩) (by assumption) ?_
      rotate_left
      · intro w hSw
        (have h1 := hSw.1)
        go_simp
        try (with_reducible rfl)
      (simp only [Act.put, List.getElem_toArray, List.getElem_cons_succ, List.getElem_cons_zero, List.setIfInBounds_toArray, List.set_cons_zero, List.set_cons_succ])
      refine wpAnyH_ready (rs := [14]) (by kernel_rfl) (by simp) ?_
      refine AllReadyH.cons rfl (fun K hK => ?_) AllReadyH.nil
      go_simp
      ((refine (theirs15_calls _ s _ Hs.out HFs.out.2).mono ?_; rintro e u11 ⟨vt, rfl, ht, hb⟩; replace HI := Lib.hid (HI.out.below hb); replace Hs := Lib.hid (Hs.out.below hb); replace HA := Lib.hid (HA.out.below hb); replace HM := Lib.hid (HM.out.below hb); replace HN0 := Lib.hid (HN0.out.below hb); replace HW0 := Lib.hid (HW0.out.below hb); replace HB := Lib.hid (HB.out.trans (hb.mono HB.out.size)); have T1 := Lib.hid (ht.rows (by have := HFs.out.2; omega)); clear hb; clear ht; obtain ⟨axx, qxx, rfl⟩ := T1.out.slice))
      refine hK.out _ _ ?_ ?_
      · (exact HA.out)
      intro hHeld
      clear hK K
      refine wpAnyH_ready (rs := [17]) (by kernel_rfl) (by simp) ?_
      refine AllReadyH.cons rfl (fun K hK => ?_) AllReadyH.nil
      go_simp
      ((refine (clash_calls _ _ [] s n _ HN0.out T1.out HRs.out).mono ?_; rintro e u12 ⟨rfl, hb⟩; replace HI := Lib.hid (HI.out.below hb); replace Hs := Lib.hid (Hs.out.below hb); replace HA := Lib.hid (HA.out.below hb); replace HM := Lib.hid (HM.out.below hb); replace HN0 := Lib.hid (HN0.out.below hb); replace HW0 := Lib.hid (HW0.out.below hb); replace T1 := Lib.hid (T1.out.below hb); replace HB := Lib.hid (HB.out.trans (hb.mono HB.out.size)); clear hb; rw [clash_none]))
      refine hK.out _ _ ?_ ?_
      · (exact HA.out)
      intro hHeld
      clear hK K
      refine wpAnyH_take (i := 18) (v := ?_) rfl (by kernel_rfl) (by kernel_rfl) (by kernel_rfl) (fun _ _ _ h => h) (Or.inl ⟨by rfl, ?_⟩) (by assumption) ?_
      rotate_left
      · intro w hSw
        go_simp
        try (with_reducible rfl)
      (simp only [Act.put, List.getElem_toArray, List.getElem_cons_succ, List.getElem_cons_zero, List.setIfInBounds_toArray, List.set_cons_zero, List.set_cons_succ])
      refine wpAnyH_take (i := 19) (v := ?_) rfl (by kernel_rfl) (by kernel_rfl) (by kernel_rfl) (fun _ _ _ h => h) (Or.inl ⟨by rfl, ?_⟩) (by assumption) ?_
      rotate_left
      · intro w hSw
        go_simp
        try (with_reducible rfl)
      (simp only [Act.put, List.getElem_toArray, List.getElem_cons_succ, List.getElem_cons_zero, List.setIfInBounds_toArray, List.set_cons_zero, List.set_cons_succ])
      refine wpAnyH_take (i := 20) (v := ?_) rfl (by kernel_rfl) (by kernel_rfl) (by kernel_rfl) (fun _ _ _ h => h) (Or.inl ⟨by rfl, ?_⟩) (by assumption) ?_
      rotate_left
      · intro w hSw
        go_simp
        try (with_reducible rfl)
      (simp only [Act.put, List.getElem_toArray, List.getElem_cons_succ, List.getElem_cons_zero, List.setIfInBounds_toArray, List.set_cons_zero, List.set_cons_succ])
      refine wpAnyH_take (i := 21) (v := ?_) rfl (by kernel_rfl) (by kernel_rfl) (by kernel_rfl) (fun _ _ _ h => h) (Or.inl ⟨by rfl, ?_⟩) (by assumption) ?_
      rotate_left
      · intro w hSw
        go_simp
        try (with_reducible rfl)
      (simp only [Act.put, List.getElem_toArray, List.getElem_cons_succ, List.getElem_cons_zero, List.setIfInBounds_toArray, List.set_cons_zero, List.set_cons_succ])
      refine wpAnyH_take (i := 22) (v := ?_) rfl (by kernel_rfl) (by kernel_rfl) (by kernel_rfl) (fun _ _ _ h => h) (Or.inl ⟨by rfl, ?_⟩) (by assumption) ?_
      rotate_left
      · intro w hSw
        go_simp
        try (with_reducible rfl)
      (simp only [Act.put, List.getElem_toArray, List.getElem_cons_succ, List.getElem_cons_zero, List.setIfInBounds_toArray, List.set_cons_zero, List.set_cons_succ])
      refine wpAnyH_take (i := 24) (v := ?_) rfl (by kernel_rfl) (by kernel_rfl) (by kernel_rfl) (fun _ _ _ h => h) (Or.inl ⟨by rfl, ?_⟩) (by assumption) ?_
      rotate_left
      · intro w hSw
        go_simp
        try (with_reducible rfl)
      (simp only [Act.put, List.getElem_toArray, List.getElem_cons_succ, List.getElem_cons_zero, List.setIfInBounds_toArray, List.set_cons_zero, List.set_cons_succ])
      refine wpAnyH_ready (rs := [23]) (by kernel_rfl) (by simp) ?_
      refine AllReadyH.cons rfl (fun K hK => ?_) AllReadyH.nil
      go_simp
      ((refine (theirs15_calls _ s _ Hs.out HFs.out.2).mono ?_; rintro e u13 ⟨vt, rfl, ht, hb⟩; replace HI := Lib.hid (HI.out.below hb); replace Hs := Lib.hid (Hs.out.below hb); replace HA := Lib.hid (HA.out.below hb); replace HM := Lib.hid (HM.out.below hb); replace HN0 := Lib.hid (HN0.out.below hb); replace HW0 := Lib.hid (HW0.out.below hb); replace T1 := Lib.hid (T1.out.below hb); replace HB := Lib.hid (HB.out.trans (hb.mono HB.out.size)); have T2 := Lib.hid (ht.rows (by have := HFs.out.2; omega)); clear hb; clear ht; obtain ⟨axx, qxx, rfl⟩ := T2.out.slice))
      refine hK.out _ _ ?_ ?_
      · (exact HA.out)
      intro hHeld
      clear hK K
      refine wpAnyH_ready (rs := [25]) (by kernel_rfl) (by simp) ?_
      refine AllReadyH.cons rfl (fun K hK => ?_) AllReadyH.nil
      go_simp
      ((refine (last_calls _ cs _ HM.out).mono ?_; rintro e u14 ⟨rfl, rfl⟩))
      refine hK.out _ _ ?_ ?_
      · (exact HA.out)
      intro hHeld
      clear hK K
      refine wpAnyH_ready (rs := [26]) (by kernel_rfl) (by simp) ?_
      refine AllReadyH.cons rfl (fun K hK => ?_) AllReadyH.nil
      go_simp
      ((refine (clash_calls _ _ cs s (lastN cs) _ HM.out T2.out HRs.out).mono ?_; rintro e u15 ⟨rfl, hb⟩; replace HI := Lib.hid (HI.out.below hb); replace Hs := Lib.hid (Hs.out.below hb); replace HA := Lib.hid (HA.out.below hb); replace HM := Lib.hid (HM.out.below hb); replace HN0 := Lib.hid (HN0.out.below hb); replace HW0 := Lib.hid (HW0.out.below hb); replace T1 := Lib.hid (T1.out.below hb); replace T2 := Lib.hid (T2.out.below hb); replace HB := Lib.hid (HB.out.trans (hb.mono HB.out.size)); clear hb; rw [clash_last HRC.out s (Nat.le_refl _)]))
      refine hK.out _ _ ?_ ?_
      · (exact HA.out)
      intro hHeld
      clear hK K
      refine wpAnyH_take (i := 27) (v := ?_) rfl (by kernel_rfl) (by kernel_rfl) (by kernel_rfl) (fun _ _ _ h => h) (Or.inl ⟨by rfl, ?_⟩) (by assumption) ?_
      rotate_left
      · intro w hSw
        go_simp
        try (with_reducible rfl)
      (simp only [Act.put, List.getElem_toArray, List.getElem_cons_succ, List.getElem_cons_zero, List.setIfInBounds_toArray, List.set_cons_zero, List.set_cons_succ])
      refine wpAnyH_take (i := 28) (v := ?_) rfl (by kernel_rfl) (by kernel_rfl) (by kernel_rfl) (fun _ _ _ h => h) (Or.inl ⟨by rfl, ?_⟩) (by assumption) ?_
      rotate_left
      · intro w hSw
        go_simp
        try (with_reducible rfl)
      (simp only [Act.put, List.getElem_toArray, List.getElem_cons_succ, List.getElem_cons_zero, List.setIfInBounds_toArray, List.set_cons_zero, List.set_cons_succ])
      refine wpAnyH_take (i := 29) (v := ?_) rfl (by kernel_rfl) (by kernel_rfl) (by kernel_rfl) (fun _ _ _ h => h) (Or.inl ⟨by rfl, ?_⟩) (by assumption) ?_
      rotate_left
      · intro w hSw
        go_simp
        try (with_reducible rfl)
      (simp only [Act.put, List.getElem_toArray, List.getElem_cons_succ, List.getElem_cons_zero, List.setIfInBounds_toArray, List.set_cons_zero, List.set_cons_succ])
      refine wpAnyH_done (by kernel_rfl) ?_ _
      go_wp2
      go_ret
      exact ⟨rfl, HB.out⟩
    · skip
      clear hn
      go_wp2
      refine wp_region_held_drew (S := (fun W : World => AtB w.heap.size n m W)) (by kernel_rfl) ?_ (fun hHeld => ?_)
      · (exact HA.out)
      try (change wpAnyH _ _ _ _ _ _ _ _ (World.drew _))
      replace HI := Lib.hid HI.out.drew
      replace Hs := Lib.hid Hs.out.drew
      replace HA := Lib.hid HA.out.drew
      replace HM := Lib.hid HM.out.drew
      replace HN0 := Lib.hid HN0.out.drew
      replace HW0 := Lib.hid HW0.out.drew
      replace HB := Lib.hid (Below.drew HB.out)
      refine wpAnyH_take (i := 0) (v := ?_) rfl (by kernel_rfl) (by kernel_rfl) (by kernel_rfl) (fun _ _ _ h => h) (Or.inl ⟨by rfl, ?_⟩) (by assumption) ?_
      rotate_left
      · intro w hSw
        go_simp
        try (with_reducible rfl)
      (simp only [Act.put, List.getElem_toArray, List.getElem_cons_succ, List.getElem_cons_zero, List.setIfInBounds_toArray, List.set_cons_zero, List.set_cons_succ])
      refine wpAnyH_take (i := 1) (v := ?_) rfl (by kernel_rfl) (by kernel_rfl) (by kernel_rfl) (fun _ _ _ h => h) (Or.inl ⟨by rfl, ?_⟩) (by assumption) ?_
      rotate_left
      · intro w hSw
        go_simp
        try (with_reducible rfl)
      (simp only [Act.put, List.getElem_toArray, List.getElem_cons_succ, List.getElem_cons_zero, List.setIfInBounds_toArray, List.set_cons_zero, List.set_cons_succ])
      refine wpAnyH_take (i := 2) (v := undef) rfl (by kernel_rfl) (by kernel_rfl) (by kernel_rfl) (fun _ _ _ h => h) (Or.inr ⟨by rfl, rfl⟩) (by assumption) ?_
      (simp only [Act.put, List.getElem_toArray, List.getElem_cons_succ, List.getElem_cons_zero, List.setIfInBounds_toArray, List.set_cons_zero, List.set_cons_succ])
      refine wpAnyH_take (i := 3) (v := undef) rfl (by kernel_rfl) (by kernel_rfl) (by kernel_rfl) (fun _ _ _ h => h) (Or.inr ⟨by rfl, rfl⟩) (by assumption) ?_
      (simp only [Act.put, List.getElem_toArray, List.getElem_cons_succ, List.getElem_cons_zero, List.setIfInBounds_toArray, List.set_cons_zero, List.set_cons_succ])
      refine wpAnyH_take (i := 4) (v := ?_) rfl (by kernel_rfl) (by kernel_rfl) (by kernel_rfl) (fun _ _ _ h => h) (Or.inl ⟨by rfl, ?_⟩) (by assumption) ?_
      rotate_left
      · intro w hSw
        go_simp
        try (with_reducible rfl)
      (simp only [Act.put, List.getElem_toArray, List.getElem_cons_succ, List.getElem_cons_zero, List.setIfInBounds_toArray, List.set_cons_zero, List.set_cons_succ])
      refine wpAnyH_take (i := 5) (v := ?_) rfl (by kernel_rfl) (by kernel_rfl) (by kernel_rfl) (fun _ _ _ h => h) (Or.inl ⟨by rfl, ?_⟩) (by assumption) ?_
      rotate_left
      · intro w hSw
        go_simp
        try (with_reducible rfl)
      (simp only [Act.put, List.getElem_toArray, List.getElem_cons_succ, List.getElem_cons_zero, List.setIfInBounds_toArray, List.set_cons_zero, List.set_cons_succ])
      refine wpAnyH_take (i := 6) (v := ?_) rfl (by kernel_rfl) (by kernel_rfl) (by kernel_rfl) (fun _ _ _ h => h) (Or.inl ⟨by rfl, ?_⟩) (by assumption) ?_
      rotate_left
      · intro w hSw
        go_simp
        try (with_reducible rfl)
      (simp only [Act.put, List.getElem_toArray, List.getElem_cons_succ, List.getElem_cons_zero, List.setIfInBounds_toArray, List.set_cons_zero, List.set_cons_succ])
      refine wpAnyH_take (i := 7) (v := ?_) rfl (by kernel_rfl) (by kernel_rfl) (by kernel_rfl) (fun _ _ _ h => h) (Or.inl ⟨by rfl, ?_⟩) (by assumption) ?_
      rotate_left
      · intro w hSw
        go_simp
        try (with_reducible rfl)
      (simp only [Act.put, List.getElem_toArray, List.getElem_cons_succ, List.getElem_cons_zero, List.setIfInBounds_toArray, List.set_cons_zero, List.set_cons_succ])
      refine wpAnyH_take (i := 8) (v := ?_) rfl (by kernel_rfl) (by kernel_rfl) (by kernel_rfl) (fun _ _ _ h => h) (Or.inl ⟨by rfl, ?_⟩) (by assumption) ?_
      rotate_left
      · intro w hSw
        (have h1 := hSw.1)
        go_simp
        try (with_reducible rfl)
      (simp only [Act.put, List.getElem_toArray, List.getElem_cons_succ, List.getElem_cons_zero, List.setIfInBounds_toArray, List.set_cons_zero, List.set_cons_succ])
      refine wpAnyH_ready (rs := [9]) (by kernel_rfl) (by simp) ?_
      refine AllReadyH.cons rfl (fun K hK => ?_) AllReadyH.nil
      go_simp
      ((refine (clash_calls _ _ cs [] n _ HM.out HW0.out rise_nil).mono ?_; rintro e u10 ⟨rfl, hb⟩; replace HI := Lib.hid (HI.out.below hb); replace Hs := Lib.hid (Hs.out.below hb); replace HA := Lib.hid (HA.out.below hb); replace HM := Lib.hid (HM.out.below hb); replace HN0 := Lib.hid (HN0.out.below hb); replace HW0 := Lib.hid (HW0.out.below hb); replace HB := Lib.hid (HB.out.trans (hb.mono HB.out.size)); clear hb; rw [clash_nothing]))
      refine hK.out _ _ ?_ ?_
      · (exact HA.out)
      intro hHeld
      clear hK K
      refine wpAnyH_take (i := 10) (v := ?_) rfl (by kernel_rfl) (by kernel_rfl) (by kernel_rfl) (fun _ _ _ h => h) (Or.inl ⟨by rfl, ?_⟩) (by assumption) ?_
      rotate_left
      · intro w hSw
        go_simp
        try (with_reducible rfl)
      (simp only [Act.put, List.getElem_toArray, List.getElem_cons_succ, List.getElem_cons_zero, List.setIfInBounds_toArray, List.set_cons_zero, List.set_cons_succ])
      refine wpAnyH_take (i := 11) (v := ?_) rfl (by kernel_rfl) (by kernel_rfl) (by kernel_rfl) (fun _ _ _ h => h) (Or.inl ⟨by rfl, ?_⟩) (by assumption) ?_
      rotate_left
      · intro w hSw
        go_simp
        try (with_reducible rfl)
      (simp only [Act.put, List.getElem_toArray, List.getElem_cons_succ, List.getElem_cons_zero, List.setIfInBounds_toArray, List.set_cons_zero, List.set_cons_succ])
      refine wpAnyH_take (i := 12) (v := ?_) rfl (by kernel_rfl) (by kernel_rfl) (by kernel_rfl) (fun _ _ _ h => h) (Or.inl ⟨by rfl, ?_⟩) (by assumption) ?_
      rotate_left
      · intro w hSw
        go_simp
        try (with_reducible rfl)
      (simp only [Act.put, List.getElem_toArray, List.getElem_cons_succ, List.getElem_cons_zero, List.setIfInBounds_toArray, List.set_cons_zero, List.set_cons_succ])
      refine wpAnyH_take (i := 13) (v := ?_) rfl (by kernel_rfl) (by kernel_rfl) (by kernel_rfl) (fun _ _ _ h => h) (Or.inl ⟨by rfl, ?_⟩) (by assumption) ?_
      rotate_left
      · intro w hSw
        go_simp
        try (with_reducible rfl)
      (simp only [Act.put, List.getElem_toArray, List.getElem_cons_succ, List.getElem_cons_zero, List.setIfInBounds_toArray, List.set_cons_zero, List.set_cons_succ])
      refine wpAnyH_take (i := 15) (v := ?_) rfl (by kernel_rfl) (by kernel_rfl) (by kernel_rfl) (fun _ _ _ h => h) (Or.inl ⟨by rfl, ?_⟩) (by assumption) ?_
      rotate_left
      · intro w hSw
        go_simp
        try (with_reducible rfl)
      (simp only [Act.put, List.getElem_toArray, List.getElem_cons_succ, List.getElem_cons_zero, List.setIfInBounds_toArray, List.set_cons_zero, List.set_cons_succ])
      refine wpAnyH_take (i := 16) (v := ?_) rfl (by kernel_rfl) (by kernel_rfl) (by kernel_rfl) (fun _ _ _ h => h) (Or.inl ⟨by rfl, ?_⟩) (by assumption) ?_
      rotate_left
      · intro w hSw
        (have h1 := hSw.1)
        go_simp
        try (with_reducible rfl)
      (simp only [Act.put, List.getElem_toArray, List.getElem_cons_succ, List.getElem_cons_zero, List.setIfInBounds_toArray, List.set_cons_zero, List.set_cons_succ])
      refine wpAnyH_ready (rs := [14]) (by kernel_rfl) (by simp) ?_
      refine AllReadyH.cons rfl (fun K hK => ?_) AllReadyH.nil
      go_simp
      ((refine (theirs15_calls _ s _ Hs.out HFs.out.2).mono ?_; rintro e u11 ⟨vt, rfl, ht, hb⟩; replace HI := Lib.hid (HI.out.below hb); replace Hs := Lib.hid (Hs.out.below hb); replace HA := Lib.hid (HA.out.below hb); replace HM := Lib.hid (HM.out.below hb); replace HN0 := Lib.hid (HN0.out.below hb); replace HW0 := Lib.hid (HW0.out.below hb); replace HB := Lib.hid (HB.out.trans (hb.mono HB.out.size)); have T1 := Lib.hid (ht.rows (by have := HFs.out.2; omega)); clear hb; clear ht; obtain ⟨axx, qxx, rfl⟩ := T1.out.slice))
      refine hK.out _ _ ?_ ?_
      · (exact HA.out)
      intro hHeld
      clear hK K
      refine wpAnyH_ready (rs := [17]) (by kernel_rfl) (by simp) ?_
      refine AllReadyH.cons rfl (fun K hK => ?_) AllReadyH.nil
      go_simp
      ((refine (clash_calls _ _ [] s n _ HN0.out T1.out HRs.out).mono ?_; rintro e u12 ⟨rfl, hb⟩; replace HI := Lib.hid (HI.out.below hb); replace Hs := Lib.hid (Hs.out.below hb); replace HA := Lib.hid (HA.out.below hb); replace HM := Lib.hid (HM.out.below hb); replace HN0 := Lib.hid (HN0.out.below hb); replace HW0 := Lib.hid (HW0.out.below hb); replace T1 := Lib.hid (T1.out.below hb); replace HB := Lib.hid (HB.out.trans (hb.mono HB.out.size)); clear hb; rw [clash_none]))
      refine hK.out _ _ ?_ ?_
      · (exact HA.out)
      intro hHeld
      clear hK K
      refine wpAnyH_take (i := 18) (v := ?_) rfl (by kernel_rfl) (by kernel_rfl) (by kernel_rfl) (fun _ _ _ h => h) (Or.inl ⟨by rfl, ?_⟩) (by assumption) ?_
      rotate_left
      · intro w hSw
        go_simp
        try (with_reducible rfl)
      (simp only [Act.put, List.getElem_toArray, List.getElem_cons_succ, List.getElem_cons_zero, List.setIfInBounds_toArray, List.set_cons_zero, List.set_cons_succ])
      refine wpAnyH_take (i := 19) (v := ?_) rfl (by kernel_rfl) (by kernel_rfl) (by kernel_rfl) (fun _ _ _ h => h) (Or.inl ⟨by rfl, ?_⟩) (by assumption) ?_
      rotate_left
      · intro w hSw
        go_simp
        try (with_reducible rfl)
      (simp only [Act.put, List.getElem_toArray, List.getElem_cons_succ, List.getElem_cons_zero, List.setIfInBounds_toArray, List.set_cons_zero, List.set_cons_succ])
      refine wpAnyH_take (i := 20) (v := ?_) rfl (by kernel_rfl) (by kernel_rfl) (by kernel_rfl) (fun _ _ _ h => h) (Or.inl ⟨by rfl, ?_⟩) (by assumption) ?_
      rotate_left
      · intro w hSw
        go_simp
        try (with_reducible rfl)
      (simp only [Act.put, List.getElem_toArray, List.getElem_cons_succ, List.getElem_cons_zero, List.setIfInBounds_toArray, List.set_cons_zero, List.set_cons_succ])
      refine wpAnyH_take (i := 21) (v := ?_) rfl (by kernel_rfl) (by kernel_rfl) (by kernel_rfl) (fun _ _ _ h => h) (Or.inl ⟨by rfl, ?_⟩) (by assumption) ?_
      rotate_left
      · intro w hSw
        go_simp
        try (with_reducible rfl)
      (simp only [Act.put, List.getElem_toArray, List.getElem_cons_succ, List.getElem_cons_zero, List.setIfInBounds_toArray, List.set_cons_zero, List.set_cons_succ])
      refine wpAnyH_take (i := 22) (v := ?_) rfl (by kernel_rfl) (by kernel_rfl) (by kernel_rfl) (fun _ _ _ h => h) (Or.inl ⟨by rfl, ?_⟩) (by assumption) ?_
      rotate_left
      · intro w hSw
        go_simp
        try (with_reducible rfl)
      (simp only [Act.put, List.getElem_toArray, List.getElem_cons_succ, List.getElem_cons_zero, List.setIfInBounds_toArray, List.set_cons_zero, List.set_cons_succ])
      refine wpAnyH_take (i := 24) (v := ?_) rfl (by kernel_rfl) (by kernel_rfl) (by kernel_rfl) (fun _ _ _ h => h) (Or.inl ⟨by rfl, ?_⟩) (by assumption) ?_
      rotate_left
      · intro w hSw
        go_simp
        try (with_reducible rfl)
      (simp only [Act.put, List.getElem_toArray, List.getElem_cons_succ, List.getElem_cons_zero, List.setIfInBounds_toArray, List.set_cons_zero, List.set_cons_succ])
      refine wpAnyH_ready (rs := [23]) (by kernel_rfl) (by simp) ?_
      refine AllReadyH.cons rfl (fun K hK => ?_) AllReadyH.nil
      go_simp
      ((refine (theirs15_calls _ s _ Hs.out HFs.out.2).mono ?_; rintro e u13 ⟨vt, rfl, ht, hb⟩; replace HI := Lib.hid (HI.out.below hb); replace Hs := Lib.hid (Hs.out.below hb); replace HA := Lib.hid (HA.out.below hb); replace HM := Lib.hid (HM.out.below hb); replace HN0 := Lib.hid (HN0.out.below hb); replace HW0 := Lib.hid (HW0.out.below hb); replace T1 := Lib.hid (T1.out.below hb); replace HB := Lib.hid (HB.out.trans (hb.mono HB.out.size)); have T2 := Lib.hid (ht.rows (by have := HFs.out.2; omega)); clear hb; clear ht; obtain ⟨axx, qxx, rfl⟩ := T2.out.slice))
      refine hK.out _ _ ?_ ?_
      · (exact HA.out)
      intro hHeld
      clear hK K
      refine wpAnyH_ready (rs := [25]) (by kernel_rfl) (by simp) ?_
      refine AllReadyH.cons rfl (fun K hK => ?_) AllReadyH.nil
      go_simp
      ((refine (last_calls _ cs _ HM.out).mono ?_; rintro e u14 ⟨rfl, rfl⟩))
      refine hK.out _ _ ?_ ?_
      · (exact HA.out)
      intro hHeld
      clear hK K
      refine wpAnyH_ready (rs := [26]) (by kernel_rfl) (by simp) ?_
      refine AllReadyH.cons rfl (fun K hK => ?_) AllReadyH.nil
      go_simp
      ((refine (clash_calls _ _ cs s (lastN cs) _ HM.out T2.out HRs.out).mono ?_; rintro e u15 ⟨rfl, hb⟩; replace HI := Lib.hid (HI.out.below hb); replace Hs := Lib.hid (Hs.out.below hb); replace HA := Lib.hid (HA.out.below hb); replace HM := Lib.hid (HM.out.below hb); replace HN0 := Lib.hid (HN0.out.below hb); replace HW0 := Lib.hid (HW0.out.below hb); replace T1 := Lib.hid (T1.out.below hb); replace T2 := Lib.hid (T2.out.below hb); replace HB := Lib.hid (HB.out.trans (hb.mono HB.out.size)); clear hb; rw [clash_last HRC.out s (Nat.le_refl _)]))
      refine hK.out _ _ ?_ ?_
      · (exact HA.out)
      intro hHeld
      clear hK K
      refine wpAnyH_take (i := 27) (v := ?_) rfl (by kernel_rfl) (by kernel_rfl) (by kernel_rfl) (fun _ _ _ h => h) (Or.inl ⟨by rfl, ?_⟩) (by assumption) ?_
      rotate_left
      · intro w hSw
        go_simp
        try (with_reducible rfl)
      (simp only [Act.put, List.getElem_toArray, List.getElem_cons_succ, List.getElem_cons_zero, List.setIfInBounds_toArray, List.set_cons_zero, List.set_cons_succ])
      refine wpAnyH_take (i := 28) (v := ?_) rfl (by kernel_rfl) (by kernel_rfl) (by kernel_rfl) (fun _ _ _ h => h) (Or.inl ⟨by rfl, ?_⟩) (by assumption) ?_
      rotate_left
      · intro w hSw
        go_simp
        try (with_reducible rfl)
      (simp only [Act.put, List.getElem_toArray, List.getElem_cons_succ, List.getElem_cons_zero, List.setIfInBounds_toArray, List.set_cons_zero, List.set_cons_succ])
      refine wpAnyH_take (i := 29) (v := ?_) rfl (by kernel_rfl) (by kernel_rfl) (by kernel_rfl) (fun _ _ _ h => h) (Or.inl ⟨by rfl, ?_⟩) (by assumption) ?_
      rotate_left
      · intro w hSw
        go_simp
        try (with_reducible rfl)
      (simp only [Act.put, List.getElem_toArray, List.getElem_cons_succ, List.getElem_cons_zero, List.setIfInBounds_toArray, List.set_cons_zero, List.set_cons_succ])
      refine wpAnyH_done (by kernel_rfl) ?_ _
      go_wp2
      go_ret
      exact ⟨rfl, HB.out⟩
  · go_wp2
    go_ret
    exact ⟨rfl, HB.out⟩
end Go.Proofs.Ytdeecdebhigafaa
