/- MODEL: the walk of ModelCalls. -/
import Derived.Test.YtdeecdebhigafaaMdlCommon
namespace Go.Proofs.Ytdeecdebhigafaa
open Go Go.RowKit

set_option maxRecDepth 100000 in
set_option maxHeartbeats 4000000 in
theorem modelCalls_walk (v u : Value) (cs : List Ct) (s : List Wr) (at' : Nat) (w : World) (hI : Coms w v cs) (hst : ∀ c ∈ cs, c.stamp < 18446744073709551616) (hs : Rows EW w u s) :
    Calls Try.prog 3 #[v, u, .int .u64 (at' : Int)] w fun e w' => e = .returned (.bool true) ∧ Below w.heap.size w w' := by
  obtain ⟨a0, q0, rfl⟩ := hI.slice
  have HI := Lib.hid hI
  have HST := Lib.hid hst
  obtain ⟨ads, qs, rfl⟩ := hs.slice
  have Hs := Lib.hid hs
  have HB : Hid (Below w.heap.size w w) := Lib.hid (Below.refl _ _)
  clear hI hst hs
  go_enter Try.func3, Try.ntmps3
  go_wp2_with fail
  refine (alive16_calls _).mono ?_
  rintro e u1 ⟨rfl, hb⟩
  replace HI := Lib.hid (HI.out.below hb)
  replace Hs := Lib.hid (Hs.out.below hb)
  replace HB := Lib.hid (HB.out.trans (hb.mono HB.out.size))
  clear hb
  go_wp2_with fail
  refine (few16_calls _ cs _ HI.out).mono ?_
  rintro e u2 ⟨r, rfl, hr, hb⟩
  replace HI := Lib.hid (HI.out.below hb)
  replace Hs := Lib.hid (Hs.out.below hb)
  replace HB := Lib.hid (HB.out.trans (hb.mono HB.out.size))
  clear hb
  have HR := Lib.hid hr
  clear hr
  cases r
  · go_wp2
    go_ret
    exact ⟨rfl, HB.out⟩
  have HF : Hid (FewA cs) := Lib.hid (HR.out.1 (by trivial))
  clear HR
  go_wp2_with fail
  refine (few15_calls _ s _ Hs.out).mono ?_
  rintro e u3 ⟨r, rfl, hr, hb⟩
  replace HI := Lib.hid (HI.out.below hb)
  replace Hs := Lib.hid (Hs.out.below hb)
  replace HB := Lib.hid (HB.out.trans (hb.mono HB.out.size))
  clear hb
  have HR := Lib.hid hr
  clear hr
  cases r
  · go_wp2
    go_ret
    exact ⟨rfl, HB.out⟩
  have HFs : Hid (FewW s) := Lib.hid (HR.out.1 (by trivial))
  clear HR
  go_wp2_with fail
  refine (rise15_calls _ s _ Hs.out).mono ?_
  rintro e u4 ⟨r, rfl, hr, hb⟩
  replace HI := Lib.hid (HI.out.below hb)
  replace Hs := Lib.hid (Hs.out.below hb)
  replace HB := Lib.hid (HB.out.trans (hb.mono HB.out.size))
  clear hb
  have HR := Lib.hid hr
  clear hr
  cases r
  · go_wp2
    go_ret
    exact ⟨rfl, HB.out⟩
  have HRs : Hid (RiseW s) := Lib.hid (HR.out.1 (by trivial))
  clear HR
  go_wp2_with fail
  refine (theirs16_calls _ cs _ HI.out (HF.out.le60) (by have := HF.out.2.1; omega)).mono ?_
  rintro e u5 ⟨vm, rfl, hm, hb⟩
  replace HI := Lib.hid (HI.out.below hb)
  replace Hs := Lib.hid (Hs.out.below hb)
  replace HB := Lib.hid (HB.out.trans (hb.mono HB.out.size))
  have HM := Lib.hid (hm)
  clear hb
  clear hm
  obtain ⟨am, qm, rfl⟩ := HM.out.slice
  have HFC : Hid (FewC cs) := Lib.hid (HF.out.fewC HST.out)
  go_wp2_with fail
  refine (theirs15_calls _ s _ Hs.out HFs.out.2).mono ?_
  rintro e u6 ⟨vt, rfl, ht, hb⟩
  replace HI := Lib.hid (HI.out.below hb)
  replace Hs := Lib.hid (Hs.out.below hb)
  replace HM := Lib.hid (HM.out.below hb)
  replace HB := Lib.hid (HB.out.trans (hb.mono HB.out.size))
  have T10 := Lib.hid (ht.rows (by have := HFs.out.2; omega))
  clear hb
  clear ht
  obtain ⟨at10, qt10, rfl⟩ := T10.out.slice
  by_cases h6 : 60000 ≤ lastN cs
  · skip
    go_wp2_with fail
    refine (add_end _ _ cs _ HM.out (by have := HF.out.2.1; omega) h6).mono ?_
    rintro e u7 ⟨vn, rfl, hn, hb⟩
    replace HI := Lib.hid (HI.out.below hb)
    replace Hs := Lib.hid (Hs.out.below hb)
    replace HM := Lib.hid (HM.out.below hb)
    replace T10 := Lib.hid (T10.out.below hb)
    replace HB := Lib.hid (HB.out.trans (hb.mono HB.out.size))
    have HN := Lib.hid (hn)
    clear hb
    clear hn
    obtain ⟨an, qn, rfl⟩ := HN.out.slice
    go_wp2_with fail
    refine (radd_end _ _ cs _ HI.out h6).mono ?_
    rintro e u8 ⟨rfl, rfl⟩
    have HR2 := HI
    clear h6
    go_wp2_with fail
    refine (ours16_calls _ (cs) _ HN.out (fun c hc => by obtain ⟨i, hi⟩ := List.mem_iff_getElem?.1 hc; exact (HFC.out.1 i c hi).1) (by have := HFC.out.2; omega)).mono ?_
    rintro e u9 ⟨vo, rfl, ho, hb⟩
    replace HI := Lib.hid (HI.out.below hb)
    replace Hs := Lib.hid (Hs.out.below hb)
    replace HM := Lib.hid (HM.out.below hb)
    replace T10 := Lib.hid (T10.out.below hb)
    replace HN := Lib.hid (HN.out.below hb)
    replace HR2 := Lib.hid (HR2.out.below hb)
    replace HB := Lib.hid (HB.out.trans (hb.mono HB.out.size))
    have HO := Lib.hid (ho)
    clear hb
    clear ho
    obtain ⟨ao, qo, rfl⟩ := HO.out.slice
    go_wp2_with fail
    refine (same16_calls _ _ (cs) (cs) _ HO.out HR2.out).mono ?_
    rintro e u10 ⟨r, rfl, hr, hb⟩
    replace HI := Lib.hid (HI.out.below hb)
    replace Hs := Lib.hid (Hs.out.below hb)
    replace HM := Lib.hid (HM.out.below hb)
    replace T10 := Lib.hid (T10.out.below hb)
    replace HN := Lib.hid (HN.out.below hb)
    replace HR2 := Lib.hid (HR2.out.below hb)
    replace HO := Lib.hid (HO.out.below hb)
    replace HB := Lib.hid (HB.out.trans (hb.mono HB.out.size))
    clear hb
    obtain rfl : r = true := hr.2 rfl
    clear hr
    go_wp2_with fail
    refine (last_calls _ (cs) _ HM.out).mono ?_
    rintro e u11 ⟨rfl, rfl⟩
    go_wp2_with fail
    refine (rlast_calls _ cs _ HI.out).mono ?_
    rintro e u12 ⟨rfl, rfl⟩
    have z1 : (((lastN cs : Nat) : Int) != ((lastN cs : Nat) : Int)) = false := bne_self_eq_false _
    go_wp2_with fail
    refine (theirs15_calls _ s _ Hs.out HFs.out.2).mono ?_
    rintro e u13 ⟨vt, rfl, ht, hb⟩
    replace HI := Lib.hid (HI.out.below hb)
    replace Hs := Lib.hid (Hs.out.below hb)
    replace HM := Lib.hid (HM.out.below hb)
    replace HB := Lib.hid (HB.out.trans (hb.mono HB.out.size))
    have T11 := Lib.hid (ht.rows (by have := HFs.out.2; omega))
    clear hb
    clear ht
    obtain ⟨at11, qt11, rfl⟩ := T11.out.slice
    go_wp2_with fail
    refine (clash_calls _ _ (cs) s (at') _ HM.out T11.out HRs.out).mono ?_
    rintro e u14 ⟨rfl, hb⟩
    replace HI := Lib.hid (HI.out.below hb)
    replace Hs := Lib.hid (Hs.out.below hb)
    replace HM := Lib.hid (HM.out.below hb)
    replace T11 := Lib.hid (T11.out.below hb)
    replace HB := Lib.hid (HB.out.trans (hb.mono HB.out.size))
    clear hb
    go_wp2_with fail
    refine (rclash_calls _ _ cs s at' _ HI.out Hs.out).mono ?_
    rintro e u15 ⟨rfl, hb⟩
    replace HI := Lib.hid (HI.out.below hb)
    replace Hs := Lib.hid (Hs.out.below hb)
    replace HM := Lib.hid (HM.out.below hb)
    replace HB := Lib.hid (HB.out.trans (hb.mono HB.out.size))
    clear hb
    have z2 : ((clashB cs s at' : Bool) != clashB cs s at') = false := bne_self_eq_false _
    go_wp2_with fail
    refine (scan_calls _ (cs) (at') _ HM.out HFC.out).mono ?_
    rintro e u16 ⟨vs, rfl, hs, hls, hb⟩
    replace HI := Lib.hid (HI.out.below hb)
    replace Hs := Lib.hid (Hs.out.below hb)
    replace HM := Lib.hid (HM.out.below hb)
    replace HB := Lib.hid (HB.out.trans (hb.mono HB.out.size))
    have S1 := Lib.hid (hs.rows (Nat.le_trans hls (by have := (HFC.out).2; omega)))
    clear hb
    have HLS1 := Lib.hid (Nat.le_trans hls (Nat.mul_le_mul_left 60 (HFC.out).2))
    clear hs hls
    obtain ⟨axS1, qsS1, rfl⟩ := S1.out.slice
    go_wp2_with fail
    refine (back_calls _ (scanM cs at') _ S1.out (Nat.le_trans HLS1.out (by omega))).mono ?_
    rintro e u17 ⟨vb, rfl, hs, hb⟩
    replace HI := Lib.hid (HI.out.below hb)
    replace Hs := Lib.hid (Hs.out.below hb)
    replace HM := Lib.hid (HM.out.below hb)
    replace S1 := Lib.hid (S1.out.below hb)
    replace HB := Lib.hid (HB.out.trans (hb.mono HB.out.size))
    have B1 := Lib.hid (hs.rows (Nat.le_trans HLS1.out (by omega)))
    clear hb
    clear hs
    obtain ⟨abB1, qbB1, rfl⟩ := B1.out.slice
    go_wp2_with fail
    refine (rscan_calls _ cs at' _ HI.out HFC.out).mono ?_
    rintro e u18 ⟨vs, rfl, hs, hls, hb⟩
    replace HI := Lib.hid (HI.out.below hb)
    replace Hs := Lib.hid (Hs.out.below hb)
    replace HM := Lib.hid (HM.out.below hb)
    replace S1 := Lib.hid (S1.out.below hb)
    replace B1 := Lib.hid (B1.out.below hb)
    replace HB := Lib.hid (HB.out.trans (hb.mono HB.out.size))
    have S2 := Lib.hid (hs.rows (Nat.le_trans hls (by have := HFC.out.2; omega)))
    clear hb
    clear hs hls
    obtain ⟨axS2, qsS2, rfl⟩ := S2.out.slice
    go_wp2_with fail
    refine (pairs_calls _ _ (scanM cs at') (scanR cs at') _ B1.out S2.out).mono ?_
    rintro e u19 ⟨r, rfl, hr, hb⟩
    replace HI := Lib.hid (HI.out.below hb)
    replace Hs := Lib.hid (Hs.out.below hb)
    replace HM := Lib.hid (HM.out.below hb)
    replace S1 := Lib.hid (S1.out.below hb)
    replace B1 := Lib.hid (B1.out.below hb)
    replace S2 := Lib.hid (S2.out.below hb)
    replace HB := Lib.hid (HB.out.trans (hb.mono HB.out.size))
    clear hb
    obtain rfl : r = true := hr.2 (scan_eq HFC.out at')
    clear hr
    clear S1 S2 B1 HLS1 z1 z2
    obtain ⟨w0, hw0⟩ : ∃ W, W = u19 := ⟨_, rfl⟩
    rw [← hw0] at HB HI Hs HM ⊢
    clear hw0
    have BHI := HI
    have BHs := Hs
    have BHM := HM
    have BHB := HB
    have hles := Hs.out.le
    have hcps := Hs.out.cap_le
    go_wp2
    go_loopw [13, 14, 15, 16, 17, 90] (fun _ _ _ _ _ i wr => ∃ k : Nat, k ≤ s.length ∧ i = .int .i64 k ∧ (True) ∧ Below w0.heap.size w0 wr) (fun _ _ _ _ _ i _ => s.length - (intOf i).toNat)
    case atStart => exact ⟨0, Nat.zero_le _, rfl, trivial, Below.refl _ _⟩
    case round =>
      obtain ⟨k, hk, rfl, hx, hbw⟩ := hrel
      have HX := Lib.hid hx
      clear hx
      replace HI := Lib.hid (BHI.out.below hbw)
      replace Hs := Lib.hid (BHs.out.below hbw)
      replace HM := Lib.hid (BHM.out.below hbw)
      replace HB := Lib.hid (BHB.out.trans (hbw.mono BHB.out.size))
      have HBW := Lib.hid hbw
      clear hbw
      by_cases hlt : k < s.length
      · obtain ⟨x, hx⟩ : ∃ x, s[k]? = some x := ⟨_, List.getElem?_eq_getElem hlt⟩
        have HXX := Lib.hid hx
        obtain ⟨b, off, e0, hz, hc0, hc1, hc2⟩ := Hs.out.w3 hx
        subst e0
        clear hz hx
        go_wp2_with fail
        replace HI := Lib.hid (HI.out.alloc (.cells #[.string x.key, .string x.text, .bool x.gone] 52))
        replace Hs := Lib.hid (Hs.out.alloc (.cells #[.string x.key, .string x.text, .bool x.gone] 52))
        replace HM := Lib.hid (HM.out.alloc (.cells #[.string x.key, .string x.text, .bool x.gone] 52))
        replace HB := Lib.hid (HB.out.alloc HB.out.size (.cells #[.string x.key, .string x.text, .bool x.gone] 52))
        have HS0 : Hid ((wr.alloc (.cells #[.string x.key, .string x.text, .bool x.gone] 52)).cell? ⟨wr.heap.size, 0, none⟩ = some (.string x.key)) := Lib.hid (cell_of_row _ _ _ _ _ _ (heap_alloc_new wr _))
        replace HBW := Lib.hid (HBW.out.alloc HBW.out.size (.cells #[.string x.key, .string x.text, .bool x.gone] 52))
        skip
        refine (read_calls _ cs x.key at' _ HM.out HFC.out.rises).mono ?_
        rintro e u20 ⟨rfl, hb⟩
        replace HI := Lib.hid (HI.out.below hb)
        replace Hs := Lib.hid (Hs.out.below hb)
        replace HM := Lib.hid (HM.out.below hb)
        replace HB := Lib.hid (HB.out.trans (hb.mono HB.out.size))
        replace HBW := Lib.hid (HBW.out.trans (hb.mono HBW.out.size))
        have hb6 := hb
        clear hb
        have hk0 : u20.cell? ⟨wr.heap.size, 0, none⟩ = some (.string x.key) := (hb6.cell (p := ⟨wr.heap.size, 0, none⟩) (by simp)).trans HS0.out
        clear hb6 HS0
        go_wp2_with fail
        refine (rread_calls _ cs x.key at' _ HI.out).mono ?_
        rintro e u21 ⟨rfl, hb⟩
        replace HI := Lib.hid (HI.out.below hb)
        replace Hs := Lib.hid (Hs.out.below hb)
        replace HM := Lib.hid (HM.out.below hb)
        replace HB := Lib.hid (HB.out.trans (hb.mono HB.out.size))
        replace HBW := Lib.hid (HBW.out.trans (hb.mono HBW.out.size))
        have hb6 := hb
        clear hb
        clear hb6 hk0
        generalize seenT (readO cs x.key at') = tt at *
        generalize seenB (readO cs x.key at') = bb at *
        have q1 : ((tt.toList == tt.toList) : Bool) = true := beq_self_eq_true _
        have q2 : ((bb != bb) : Bool) = false := bne_self_eq_false _
        have q3 : ((bb == bb) : Bool) = true := beq_self_eq_true _
        go_wp2
        go_roundw
        case rel => exact ⟨k + 1, hlt, by go_num, HX.out, HBW.out⟩
        case measure => simp [intOf]; omega
      · obtain rfl : k = s.length := by omega
        clear hlt hk
        go_wp2
        go_ret
        exact ⟨rfl, HB.out⟩
  · skip
    have h6' : lastN cs < 60000 := by omega
    clear h6
    go_wp2_with fail
    refine (add_more _ _ cs s _ HM.out T10.out (by have := HF.out.2.1; omega) (by have := HFs.out.2; omega) h6').mono ?_
    rintro e u7 ⟨vn, rfl, hn, hb⟩
    replace HI := Lib.hid (HI.out.below hb)
    replace Hs := Lib.hid (Hs.out.below hb)
    replace HM := Lib.hid (HM.out.below hb)
    replace T10 := Lib.hid (T10.out.below hb)
    replace HB := Lib.hid (HB.out.trans (hb.mono HB.out.size))
    have HN := Lib.hid (hn)
    clear hb
    clear hn
    replace HN : Hid (Coms _ vn (addC cs s)) := HN
    obtain ⟨an, qn, rfl⟩ := HN.out.slice
    go_wp2_with fail
    refine (radd_more _ _ cs s _ HI.out Hs.out (by have := HF.out.2.1; omega) h6').mono ?_
    rintro e u8 ⟨vr, rfl, hn, hb⟩
    replace HI := Lib.hid (HI.out.below hb)
    replace Hs := Lib.hid (Hs.out.below hb)
    replace HM := Lib.hid (HM.out.below hb)
    replace T10 := Lib.hid (T10.out.below hb)
    replace HN := Lib.hid (HN.out.below hb)
    replace HB := Lib.hid (HB.out.trans (hb.mono HB.out.size))
    have HR2 := Lib.hid (hn)
    clear hb
    clear hn
    replace HR2 : Hid (Coms _ vr (addC cs s)) := HR2
    obtain ⟨an2, qn2, rfl⟩ := HR2.out.slice
    have HFN : Hid (FewC (addC cs s)) := Lib.hid (few_addC HFC.out HF.out.2.1 HFs.out.2 HRs.out h6')
    clear h6'
    go_wp2_with fail
    refine (ours16_calls _ (addC cs s) _ HN.out (fun c hc => by obtain ⟨i, hi⟩ := List.mem_iff_getElem?.1 hc; exact (HFN.out.1 i c hi).1) (by have := HFN.out.2; omega)).mono ?_
    rintro e u9 ⟨vo, rfl, ho, hb⟩
    replace HI := Lib.hid (HI.out.below hb)
    replace Hs := Lib.hid (Hs.out.below hb)
    replace HM := Lib.hid (HM.out.below hb)
    replace T10 := Lib.hid (T10.out.below hb)
    replace HN := Lib.hid (HN.out.below hb)
    replace HR2 := Lib.hid (HR2.out.below hb)
    replace HB := Lib.hid (HB.out.trans (hb.mono HB.out.size))
    have HO := Lib.hid (ho)
    clear hb
    clear ho
    obtain ⟨ao, qo, rfl⟩ := HO.out.slice
    go_wp2_with fail
    refine (same16_calls _ _ (addC cs s) (addC cs s) _ HO.out HR2.out).mono ?_
    rintro e u10 ⟨r, rfl, hr, hb⟩
    replace HI := Lib.hid (HI.out.below hb)
    replace Hs := Lib.hid (Hs.out.below hb)
    replace HM := Lib.hid (HM.out.below hb)
    replace T10 := Lib.hid (T10.out.below hb)
    replace HN := Lib.hid (HN.out.below hb)
    replace HR2 := Lib.hid (HR2.out.below hb)
    replace HO := Lib.hid (HO.out.below hb)
    replace HB := Lib.hid (HB.out.trans (hb.mono HB.out.size))
    clear hb
    obtain rfl : r = true := hr.2 rfl
    clear hr
    go_wp2_with fail
    refine (last_calls _ (cs) _ HM.out).mono ?_
    rintro e u11 ⟨rfl, rfl⟩
    go_wp2_with fail
    refine (rlast_calls _ cs _ HI.out).mono ?_
    rintro e u12 ⟨rfl, rfl⟩
    have z1 : (((lastN cs : Nat) : Int) != ((lastN cs : Nat) : Int)) = false := bne_self_eq_false _
    go_wp2_with fail
    refine (theirs15_calls _ s _ Hs.out HFs.out.2).mono ?_
    rintro e u13 ⟨vt, rfl, ht, hb⟩
    replace HI := Lib.hid (HI.out.below hb)
    replace Hs := Lib.hid (Hs.out.below hb)
    replace HM := Lib.hid (HM.out.below hb)
    replace HB := Lib.hid (HB.out.trans (hb.mono HB.out.size))
    have T12 := Lib.hid (ht.rows (by have := HFs.out.2; omega))
    clear hb
    clear ht
    obtain ⟨at12, qt12, rfl⟩ := T12.out.slice
    go_wp2_with fail
    refine (clash_calls _ _ (cs) s (at') _ HM.out T12.out HRs.out).mono ?_
    rintro e u14 ⟨rfl, hb⟩
    replace HI := Lib.hid (HI.out.below hb)
    replace Hs := Lib.hid (Hs.out.below hb)
    replace HM := Lib.hid (HM.out.below hb)
    replace T12 := Lib.hid (T12.out.below hb)
    replace HB := Lib.hid (HB.out.trans (hb.mono HB.out.size))
    clear hb
    go_wp2_with fail
    refine (rclash_calls _ _ cs s at' _ HI.out Hs.out).mono ?_
    rintro e u15 ⟨rfl, hb⟩
    replace HI := Lib.hid (HI.out.below hb)
    replace Hs := Lib.hid (Hs.out.below hb)
    replace HM := Lib.hid (HM.out.below hb)
    replace HB := Lib.hid (HB.out.trans (hb.mono HB.out.size))
    clear hb
    have z2 : ((clashB cs s at' : Bool) != clashB cs s at') = false := bne_self_eq_false _
    go_wp2_with fail
    refine (scan_calls _ (cs) (at') _ HM.out HFC.out).mono ?_
    rintro e u16 ⟨vs, rfl, hs, hls, hb⟩
    replace HI := Lib.hid (HI.out.below hb)
    replace Hs := Lib.hid (Hs.out.below hb)
    replace HM := Lib.hid (HM.out.below hb)
    replace HB := Lib.hid (HB.out.trans (hb.mono HB.out.size))
    have S1 := Lib.hid (hs.rows (Nat.le_trans hls (by have := (HFC.out).2; omega)))
    clear hb
    have HLS1 := Lib.hid (Nat.le_trans hls (Nat.mul_le_mul_left 60 (HFC.out).2))
    clear hs hls
    obtain ⟨axS1, qsS1, rfl⟩ := S1.out.slice
    go_wp2_with fail
    refine (back_calls _ (scanM cs at') _ S1.out (Nat.le_trans HLS1.out (by omega))).mono ?_
    rintro e u17 ⟨vb, rfl, hs, hb⟩
    replace HI := Lib.hid (HI.out.below hb)
    replace Hs := Lib.hid (Hs.out.below hb)
    replace HM := Lib.hid (HM.out.below hb)
    replace S1 := Lib.hid (S1.out.below hb)
    replace HB := Lib.hid (HB.out.trans (hb.mono HB.out.size))
    have B1 := Lib.hid (hs.rows (Nat.le_trans HLS1.out (by omega)))
    clear hb
    clear hs
    obtain ⟨abB1, qbB1, rfl⟩ := B1.out.slice
    go_wp2_with fail
    refine (rscan_calls _ cs at' _ HI.out HFC.out).mono ?_
    rintro e u18 ⟨vs, rfl, hs, hls, hb⟩
    replace HI := Lib.hid (HI.out.below hb)
    replace Hs := Lib.hid (Hs.out.below hb)
    replace HM := Lib.hid (HM.out.below hb)
    replace S1 := Lib.hid (S1.out.below hb)
    replace B1 := Lib.hid (B1.out.below hb)
    replace HB := Lib.hid (HB.out.trans (hb.mono HB.out.size))
    have S2 := Lib.hid (hs.rows (Nat.le_trans hls (by have := HFC.out.2; omega)))
    clear hb
    clear hs hls
    obtain ⟨axS2, qsS2, rfl⟩ := S2.out.slice
    go_wp2_with fail
    refine (pairs_calls _ _ (scanM cs at') (scanR cs at') _ B1.out S2.out).mono ?_
    rintro e u19 ⟨r, rfl, hr, hb⟩
    replace HI := Lib.hid (HI.out.below hb)
    replace Hs := Lib.hid (Hs.out.below hb)
    replace HM := Lib.hid (HM.out.below hb)
    replace S1 := Lib.hid (S1.out.below hb)
    replace B1 := Lib.hid (B1.out.below hb)
    replace S2 := Lib.hid (S2.out.below hb)
    replace HB := Lib.hid (HB.out.trans (hb.mono HB.out.size))
    clear hb
    obtain rfl : r = true := hr.2 (scan_eq HFC.out at')
    clear hr
    clear S1 S2 B1 HLS1 z1 z2
    obtain ⟨w0, hw0⟩ : ∃ W, W = u19 := ⟨_, rfl⟩
    rw [← hw0] at HB HI Hs HM ⊢
    clear hw0
    have BHI := HI
    have BHs := Hs
    have BHM := HM
    have BHB := HB
    have hles := Hs.out.le
    have hcps := Hs.out.cap_le
    go_wp2
    go_loopw [13, 14, 15, 16, 17, 90] (fun _ _ _ _ _ i wr => ∃ k : Nat, k ≤ s.length ∧ i = .int .i64 k ∧ (True) ∧ Below w0.heap.size w0 wr) (fun _ _ _ _ _ i _ => s.length - (intOf i).toNat)
    case atStart => exact ⟨0, Nat.zero_le _, rfl, trivial, Below.refl _ _⟩
    case round =>
      obtain ⟨k, hk, rfl, hx, hbw⟩ := hrel
      have HX := Lib.hid hx
      clear hx
      replace HI := Lib.hid (BHI.out.below hbw)
      replace Hs := Lib.hid (BHs.out.below hbw)
      replace HM := Lib.hid (BHM.out.below hbw)
      replace HB := Lib.hid (BHB.out.trans (hbw.mono BHB.out.size))
      have HBW := Lib.hid hbw
      clear hbw
      by_cases hlt : k < s.length
      · obtain ⟨x, hx⟩ : ∃ x, s[k]? = some x := ⟨_, List.getElem?_eq_getElem hlt⟩
        have HXX := Lib.hid hx
        obtain ⟨b, off, e0, hz, hc0, hc1, hc2⟩ := Hs.out.w3 hx
        subst e0
        clear hz hx
        go_wp2_with fail
        replace HI := Lib.hid (HI.out.alloc (.cells #[.string x.key, .string x.text, .bool x.gone] 52))
        replace Hs := Lib.hid (Hs.out.alloc (.cells #[.string x.key, .string x.text, .bool x.gone] 52))
        replace HM := Lib.hid (HM.out.alloc (.cells #[.string x.key, .string x.text, .bool x.gone] 52))
        replace HB := Lib.hid (HB.out.alloc HB.out.size (.cells #[.string x.key, .string x.text, .bool x.gone] 52))
        have HS0 : Hid ((wr.alloc (.cells #[.string x.key, .string x.text, .bool x.gone] 52)).cell? ⟨wr.heap.size, 0, none⟩ = some (.string x.key)) := Lib.hid (cell_of_row _ _ _ _ _ _ (heap_alloc_new wr _))
        replace HBW := Lib.hid (HBW.out.alloc HBW.out.size (.cells #[.string x.key, .string x.text, .bool x.gone] 52))
        skip
        refine (read_calls _ cs x.key at' _ HM.out HFC.out.rises).mono ?_
        rintro e u20 ⟨rfl, hb⟩
        replace HI := Lib.hid (HI.out.below hb)
        replace Hs := Lib.hid (Hs.out.below hb)
        replace HM := Lib.hid (HM.out.below hb)
        replace HB := Lib.hid (HB.out.trans (hb.mono HB.out.size))
        replace HBW := Lib.hid (HBW.out.trans (hb.mono HBW.out.size))
        have hb6 := hb
        clear hb
        have hk0 : u20.cell? ⟨wr.heap.size, 0, none⟩ = some (.string x.key) := (hb6.cell (p := ⟨wr.heap.size, 0, none⟩) (by simp)).trans HS0.out
        clear hb6 HS0
        go_wp2_with fail
        refine (rread_calls _ cs x.key at' _ HI.out).mono ?_
        rintro e u21 ⟨rfl, hb⟩
        replace HI := Lib.hid (HI.out.below hb)
        replace Hs := Lib.hid (Hs.out.below hb)
        replace HM := Lib.hid (HM.out.below hb)
        replace HB := Lib.hid (HB.out.trans (hb.mono HB.out.size))
        replace HBW := Lib.hid (HBW.out.trans (hb.mono HBW.out.size))
        have hb6 := hb
        clear hb
        clear hb6 hk0
        generalize seenT (readO cs x.key at') = tt at *
        generalize seenB (readO cs x.key at') = bb at *
        have q1 : ((tt.toList == tt.toList) : Bool) = true := beq_self_eq_true _
        have q2 : ((bb != bb) : Bool) = false := bne_self_eq_false _
        have q3 : ((bb == bb) : Bool) = true := beq_self_eq_true _
        go_wp2
        go_roundw
        case rel => exact ⟨k + 1, hlt, by go_num, HX.out, HBW.out⟩
        case measure => simp [intOf]; omega
      · obtain rfl : k = s.length := by omega
        clear hlt hk
        go_wp2
        go_ret
        exact ⟨rfl, HB.out⟩
end Go.Proofs.Ytdeecdebhigafaa
