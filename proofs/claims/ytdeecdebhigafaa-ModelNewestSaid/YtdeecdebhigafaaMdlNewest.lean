/- MODEL: the walk of ModelNewest. -/
import Derived.Test.YtdeecdebhigafaaMdlCommon
namespace Go.Proofs.Ytdeecdebhigafaa
open Go Go.RowKit
set_option linter.unusedSimpArgs false

set_option maxRecDepth 100000 in
set_option maxHeartbeats 4000000 in
theorem modelNewest_walk (v u : Value) (cs : List Ct) (s : List Wr) (w : World) (hI : Coms w v cs) (hst : ∀ c ∈ cs, c.stamp < 18446744073709551616) (hs : Rows EW w u s) :
    Calls Try.prog 7 #[v, u] w fun e w' => e = .returned (.bool true) ∧ Below w.heap.size w w' := by
  obtain ⟨a0, q0, rfl⟩ := hI.slice
  have HI := Lib.hid hI
  have HST := Lib.hid hst
  obtain ⟨ads, qs, rfl⟩ := hs.slice
  have Hs := Lib.hid hs
  have HB : Hid (Below w.heap.size w w) := Lib.hid (Below.refl _ _)
  clear hI hst hs
  go_enter Try.func7, Try.ntmps7
  go_wp2_with fail
  refine (alive16_calls _).mono ?_
  rintro e u1 ⟨rfl, hb⟩
  replace HI := Lib.hid (HI.out.below hb)
  replace Hs := Lib.hid (Hs.out.below hb)
  replace HB := Lib.hid (HB.out.trans (hb.mono HB.out.size))
  clear hb
  go_wp2_with fail
  refine (few16_calls _ cs _ HI.out).mono ?_
  rintro e u2 ⟨r, rfl, hr, hb⟩
  replace HI := Lib.hid (HI.out.below hb)
  replace Hs := Lib.hid (Hs.out.below hb)
  replace HB := Lib.hid (HB.out.trans (hb.mono HB.out.size))
  clear hb
  have HR := Lib.hid hr
  clear hr
  cases r
  · go_wp2
    go_ret
    exact ⟨rfl, HB.out⟩
  have HF : Hid (FewA cs) := Lib.hid (HR.out.1 (by trivial))
  clear HR
  go_wp2_with fail
  refine (few15_calls _ s _ Hs.out).mono ?_
  rintro e u3 ⟨r, rfl, hr, hb⟩
  replace HI := Lib.hid (HI.out.below hb)
  replace Hs := Lib.hid (Hs.out.below hb)
  replace HB := Lib.hid (HB.out.trans (hb.mono HB.out.size))
  clear hb
  have HR := Lib.hid hr
  clear hr
  cases r
  · go_wp2
    go_ret
    exact ⟨rfl, HB.out⟩
  have HFs : Hid (FewW s) := Lib.hid (HR.out.1 (by trivial))
  clear HR
  go_wp2_with fail
  refine (rise15_calls _ s _ Hs.out).mono ?_
  rintro e u4 ⟨r, rfl, hr, hb⟩
  replace HI := Lib.hid (HI.out.below hb)
  replace Hs := Lib.hid (Hs.out.below hb)
  replace HB := Lib.hid (HB.out.trans (hb.mono HB.out.size))
  clear hb
  have HR := Lib.hid hr
  clear hr
  cases r
  · go_wp2
    go_ret
    exact ⟨rfl, HB.out⟩
  have HRs : Hid (RiseW s) := Lib.hid (HR.out.1 (by trivial))
  clear HR
  go_wp2_with fail
  refine (theirs16_calls _ cs _ HI.out (HF.out.le60) (by have := HF.out.2.1; omega)).mono ?_
  rintro e u5 ⟨vm, rfl, hm, hb⟩
  replace HI := Lib.hid (HI.out.below hb)
  replace Hs := Lib.hid (Hs.out.below hb)
  replace HB := Lib.hid (HB.out.trans (hb.mono HB.out.size))
  have HM := Lib.hid (hm)
  clear hb
  clear hm
  obtain ⟨am, qm, rfl⟩ := HM.out.slice
  have HFC : Hid (FewC cs) := Lib.hid (HF.out.fewC HST.out)
  go_wp2_with fail
  refine (theirs15_calls _ s _ Hs.out HFs.out.2).mono ?_
  rintro e u6 ⟨vt, rfl, ht, hb⟩
  replace HI := Lib.hid (HI.out.below hb)
  replace Hs := Lib.hid (Hs.out.below hb)
  replace HM := Lib.hid (HM.out.below hb)
  replace HB := Lib.hid (HB.out.trans (hb.mono HB.out.size))
  have T8 := Lib.hid (ht.rows (by have := HFs.out.2; omega))
  clear hb
  clear ht
  obtain ⟨at8, qt8, rfl⟩ := T8.out.slice
  by_cases h6 : 60000 ≤ lastN cs
  · skip
    go_wp2_with fail
    refine (add_end _ _ cs _ HM.out (by have := HF.out.2.1; omega) h6).mono ?_
    rintro e u7 ⟨vn, rfl, hn, hb⟩
    replace HI := Lib.hid (HI.out.below hb)
    replace Hs := Lib.hid (Hs.out.below hb)
    replace HM := Lib.hid (HM.out.below hb)
    replace T8 := Lib.hid (T8.out.below hb)
    replace HB := Lib.hid (HB.out.trans (hb.mono HB.out.size))
    have HN := Lib.hid (hn)
    clear hb
    clear hn
    obtain ⟨an, qn, rfl⟩ := HN.out.slice
    go_wp2
    go_ret
    exact ⟨rfl, HB.out⟩
  have h6' : lastN cs < 60000 := by omega
  clear h6
  go_wp2_with fail
  refine (add_more _ _ cs s _ HM.out T8.out (by have := HF.out.2.1; omega) (by have := HFs.out.2; omega) h6').mono ?_
  rintro e u7 ⟨vn, rfl, hn, hb⟩
  replace HI := Lib.hid (HI.out.below hb)
  replace Hs := Lib.hid (Hs.out.below hb)
  replace HM := Lib.hid (HM.out.below hb)
  replace T8 := Lib.hid (T8.out.below hb)
  replace HB := Lib.hid (HB.out.trans (hb.mono HB.out.size))
  have HN := Lib.hid (hn)
  clear hb
  clear hn
  replace HN : Hid (Coms _ vn (addC cs s)) := HN
  obtain ⟨an, qn, rfl⟩ := HN.out.slice
  have HFN : Hid (FewC (addC cs s)) := Lib.hid (few_addC HFC.out HF.out.2.1 HFs.out.2 HRs.out h6')
  have HLE : Hid (lastN cs < 60000) := Lib.hid h6'
  obtain ⟨w0, hw0⟩ : ∃ W, W = u7 := ⟨_, rfl⟩
  rw [← hw0] at HB Hs HN ⊢
  clear hw0
  have BHs := Hs
  have BHN := HN
  have BHB := HB
  have hles := Hs.out.le
  have hcps := Hs.out.cap_le
  go_wp2
  go_loopw [8, 9, 10, 40] (fun _ _ _ i wr => ∃ k : Nat, k ≤ s.length ∧ i = .int .i64 k ∧ (True) ∧ Below w0.heap.size w0 wr) (fun _ _ _ i _ => s.length - (intOf i).toNat)
  case atStart => exact ⟨0, Nat.zero_le _, rfl, trivial, Below.refl _ _⟩
  case round =>
    obtain ⟨k, hk, rfl, hx, hbw⟩ := hrel
    have HX := Lib.hid hx
    clear hx
    replace Hs := Lib.hid (BHs.out.below hbw)
    replace HN := Lib.hid (BHN.out.below hbw)
    replace HB := Lib.hid (BHB.out.trans (hbw.mono BHB.out.size))
    have HBW := Lib.hid hbw
    clear hbw
    by_cases hlt : k < s.length
    · obtain ⟨x, hx⟩ : ∃ x, s[k]? = some x := ⟨_, List.getElem?_eq_getElem hlt⟩
      have HXX := Lib.hid hx
      obtain ⟨b, off, e0, hz, hc0, hc1, hc2⟩ := Hs.out.w3 hx
      subst e0
      clear hz hx
      go_wp2
      replace Hs := Lib.hid (Hs.out.alloc (.cells #[.string x.key, .string x.text, .bool x.gone] 52))
      replace HN := Lib.hid (HN.out.alloc (.cells #[.string x.key, .string x.text, .bool x.gone] 52))
      replace HB := Lib.hid (HB.out.alloc HB.out.size (.cells #[.string x.key, .string x.text, .bool x.gone] 52))
      have HS0 : Hid ((wr.alloc (.cells #[.string x.key, .string x.text, .bool x.gone] 52)).cell? ⟨wr.heap.size, 0, none⟩ = some (.string x.key)) := Lib.hid (cell_of_row _ _ _ _ _ _ (heap_alloc_new wr _))
      have HS1 : Hid ((wr.alloc (.cells #[.string x.key, .string x.text, .bool x.gone] 52)).cell? ⟨wr.heap.size, 1, none⟩ = some (.string x.text)) := Lib.hid (cell_of_row _ _ _ _ _ _ (heap_alloc_new wr _))
      have HS2 : Hid ((wr.alloc (.cells #[.string x.key, .string x.text, .bool x.gone] 52)).cell? ⟨wr.heap.size, 2, none⟩ = some (.bool x.gone)) := Lib.hid (cell_of_row _ _ _ _ _ _ (heap_alloc_new wr _))
      replace HBW := Lib.hid (HBW.out.alloc HBW.out.size (.cells #[.string x.key, .string x.text, .bool x.gone] 52))
      have HZ : Hid (wr.heap.size < (wr.alloc (.cells #[.string x.key, .string x.text, .bool x.gone] 52)).heap.size) := Lib.hid (by simp)
      obtain ⟨z, hz⟩ : ∃ z, z = wr.heap.size := ⟨_, rfl⟩
      obtain ⟨w1, hw1⟩ : ∃ w1, w1 = wr.alloc (.cells #[.string x.key, .string x.text, .bool x.gone] 52) := ⟨_, rfl⟩
      rw [← hw1] at Hs HN HB HBW HS0 HS1 HS2 HZ ⊢
      rw [← hz] at HS0 HS1 HS2 HZ ⊢
      clear hz hw1
      refine wp_region_held_drew (S := (fun W : World => W.cell? ⟨z, 0, none⟩ = some (.string x.key))) (by kernel_rfl) ?_ (fun hHeld => ?_)
      · (exact HS0.out)
      try (change wpAnyH _ _ _ _ _ _ _ _ (World.drew _))
      refine wpAnyH_take (i := 0) (v := ?_) rfl (by kernel_rfl) (by kernel_rfl) (by kernel_rfl) (fun _ _ _ h => h) (Or.inl ⟨by rfl, ?_⟩) (by assumption) ?_
      rotate_left
      · intro w hSw
        go_simp
        try (with_reducible rfl)
      (simp only [Act.put, List.getElem_toArray, List.getElem_cons_succ, List.getElem_cons_zero, List.setIfInBounds_toArray, List.set_cons_zero, List.set_cons_succ])
      refine wpAnyH_take (i := 1) (v := ?_) rfl (by kernel_rfl) (by kernel_rfl) (by kernel_rfl) (fun _ _ _ h => h) (Or.inl ⟨by rfl, ?_⟩) (by assumption) ?_
      rotate_left
      · intro w hSw
        go_simp
        try (with_reducible rfl)
      (simp only [Act.put, List.getElem_toArray, List.getElem_cons_succ, List.getElem_cons_zero, List.setIfInBounds_toArray, List.set_cons_zero, List.set_cons_succ])
      refine wpAnyH_take (i := 2) (v := ?_) rfl (by kernel_rfl) (by kernel_rfl) (by kernel_rfl) (fun _ _ _ h => h) (Or.inl ⟨by rfl, ?_⟩) (by assumption) ?_
      rotate_left
      · intro w hSw
        (have h1 := hSw)
        go_simp
        try (with_reducible rfl)
      (simp only [Act.put, List.getElem_toArray, List.getElem_cons_succ, List.getElem_cons_zero, List.setIfInBounds_toArray, List.set_cons_zero, List.set_cons_succ])
      refine wpAnyH_take (i := 3) (v := ?_) rfl (by kernel_rfl) (by kernel_rfl) (by kernel_rfl) (fun _ _ _ h => h) (Or.inl ⟨by rfl, ?_⟩) (by assumption) ?_
      rotate_left
      · intro w hSw
        go_simp
        try (with_reducible rfl)
      (simp only [Act.put, List.getElem_toArray, List.getElem_cons_succ, List.getElem_cons_zero, List.setIfInBounds_toArray, List.set_cons_zero, List.set_cons_succ])
      refine wpAnyH_ready (rs := [4]) (by kernel_rfl) (by simp) ?_
      refine AllReadyH.cons rfl (fun K hK => ?_) AllReadyH.nil
      go_simp
      (go_wp2_with (go_at_call 20; (with_reducible refine (last_calls _ (addC cs s) _ HN.out.drew).mono ?_); rintro e w5 ⟨rfl, rfl⟩; rw [last_addC]))
      refine hK.out _ _ ?_ ?_
      · (exact HS0.out)
      intro hHeld
      clear hK K
      refine wpAnyH_ready (rs := [5]) (by kernel_rfl) (by simp) ?_
      refine AllReadyH.cons rfl (fun K hK => ?_) AllReadyH.nil
      go_simp
      (go_wp2_with (go_at_call 28; (with_reducible refine (read_at _ (addC cs s) x.key (lastN cs + 1) ((lastN cs : Int) + 1) (by omega) _ HN.out.drew HFN.out.rises).mono ?_); rintro e w6 ⟨rfl, hb6⟩; have HB6 := Lib.hid hb6; clear hb6; rw [read_new cs HRs.out (List.mem_of_getElem? HXX.out)]))
      refine hK.out _ _ ?_ ?_
      · (exact (HB6.out.cell (p := ⟨z, 0, none⟩) HZ.out).trans HS0.out)
      intro hHeld
      clear hK K
      refine wpAnyH_take (i := 6) (v := ?_) rfl (by kernel_rfl) (by kernel_rfl) (by kernel_rfl) (fun _ _ _ h => h) (Or.inl ⟨by rfl, ?_⟩) (by assumption) ?_
      rotate_left
      · intro w hSw
        go_simp
        try (with_reducible rfl)
      (simp only [Act.put, List.getElem_toArray, List.getElem_cons_succ, List.getElem_cons_zero, List.setIfInBounds_toArray, List.set_cons_zero, List.set_cons_succ])
      refine wpAnyH_take (i := 7) (v := ?_) rfl (by kernel_rfl) (by kernel_rfl) (by kernel_rfl) (fun _ _ _ h => h) (Or.inl ⟨by rfl, ?_⟩) (by assumption) ?_
      rotate_left
      · intro w hSw
        go_simp
        try (with_reducible rfl)
      (simp only [Act.put, List.getElem_toArray, List.getElem_cons_succ, List.getElem_cons_zero, List.setIfInBounds_toArray, List.set_cons_zero, List.set_cons_succ])
      refine wpAnyH_take (i := 8) (v := ?_) rfl (by kernel_rfl) (by kernel_rfl) (by kernel_rfl) (fun _ _ _ h => h) (Or.inl ⟨by rfl, ?_⟩) (by assumption) ?_
      rotate_left
      · intro w hSw
        go_simp
        try (with_reducible rfl)
      (simp only [Act.put, List.getElem_toArray, List.getElem_cons_succ, List.getElem_cons_zero, List.setIfInBounds_toArray, List.set_cons_zero, List.set_cons_succ])
      refine wpAnyH_take (i := 9) (v := ?_) rfl (by kernel_rfl) (by kernel_rfl) (by kernel_rfl) (fun _ _ _ h => h) (Or.inl ⟨by rfl, ?_⟩) (by assumption) ?_
      rotate_left
      · intro w hSw
        go_simp
        try (with_reducible rfl)
      (simp only [Act.put, List.getElem_toArray, List.getElem_cons_succ, List.getElem_cons_zero, List.setIfInBounds_toArray, List.set_cons_zero, List.set_cons_succ])
      refine wpAnyH_take (i := 10) (v := ?_) rfl (by kernel_rfl) (by kernel_rfl) (by kernel_rfl) (fun _ _ _ h => h) (Or.inl ⟨by rfl, ?_⟩) (by assumption) ?_
      rotate_left
      · intro w hSw
        go_simp
        try (with_reducible rfl)
      (simp only [Act.put, List.getElem_toArray, List.getElem_cons_succ, List.getElem_cons_zero, List.setIfInBounds_toArray, List.set_cons_zero, List.set_cons_succ])
      refine wpAnyH_done (by kernel_rfl) ?_ _
      have hk1 : w6.cell? ⟨z, 1, none⟩ = some (.string x.text) := (HB6.out.cell (p := ⟨z, 1, none⟩) HZ.out).trans HS1.out
      have hk2 : w6.cell? ⟨z, 2, none⟩ = some (.bool x.gone) := (HB6.out.cell (p := ⟨z, 2, none⟩) HZ.out).trans HS2.out
      replace HBW : Hid (Below w0.heap.size w0 w6) := Lib.hid ((below_drewN HBW.out 1).trans (HB6.out.mono HBW.out.size))
      clear HXX HS0 HS1 HS2 hHeld hc0 hc1 hc2
      obtain ⟨xk, xt, xg⟩ := x
      cases xg
      · rw [show seenT (some ⟨xk, xt, false⟩) = xt from rfl, show seenB (some ⟨xk, xt, false⟩) = true from rfl]
        go_wp2
        go_roundw
        case rel => exact ⟨k + 1, hlt, by go_num, HX.out, HBW.out⟩
        case measure => simp [intOf]; omega
      · rw [show seenT (some ⟨xk, xt, true⟩) = ({ data := #[] } : ByteArray) from rfl, show seenB (some ⟨xk, xt, true⟩) = false from rfl]
        go_wp2
        go_roundw
        case rel => exact ⟨k + 1, hlt, by go_num, HX.out, HBW.out⟩
        case measure => simp [intOf]; omega
    · obtain rfl : k = s.length := by omega
      clear hlt hk
      go_wp2
      go_ret
      exact ⟨rfl, HB.out⟩
end Go.Proofs.Ytdeecdebhigafaa
