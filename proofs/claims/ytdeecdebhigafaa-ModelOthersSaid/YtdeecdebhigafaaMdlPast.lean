/- MODEL: the walk of ModelPast. -/
import Derived.Test.YtdeecdebhigafaaMdlCommon
namespace Go.Proofs.Ytdeecdebhigafaa
open Go Go.RowKit

set_option maxRecDepth 100000 in
set_option maxHeartbeats 4000000 in
theorem modelPast_walk (v u : Value) (cs : List Ct) (s : List Wr) (at' : Nat) (w : World) (hI : Coms w v cs) (hst : ∀ c ∈ cs, c.stamp < 18446744073709551616) (hs : Rows EW w u s) :
    Calls Try.prog 4 #[v, u, .int .u64 (at' : Int)] w fun e w' => e = .returned (.bool true) ∧ Below w.heap.size w w' := by
  obtain ⟨a0, q0, rfl⟩ := hI.slice
  have HI := Lib.hid hI
  have HST := Lib.hid hst
  obtain ⟨ads, qs, rfl⟩ := hs.slice
  have Hs := Lib.hid hs
  have HB : Hid (Below w.heap.size w w) := Lib.hid (Below.refl _ _)
  clear hI hst hs
  go_enter Try.func4, Try.ntmps4
  go_wp2_with fail
  refine (alive16_calls _).mono ?_
  rintro e u1 ⟨rfl, hb⟩
  replace HI := Lib.hid (HI.out.below hb)
  replace Hs := Lib.hid (Hs.out.below hb)
  replace HB := Lib.hid (HB.out.trans (hb.mono HB.out.size))
  clear hb
  go_wp2_with fail
  refine (few16_calls _ cs _ HI.out).mono ?_
  rintro e u2 ⟨r, rfl, hr, hb⟩
  replace HI := Lib.hid (HI.out.below hb)
  replace Hs := Lib.hid (Hs.out.below hb)
  replace HB := Lib.hid (HB.out.trans (hb.mono HB.out.size))
  clear hb
  have HR := Lib.hid hr
  clear hr
  cases r
  · go_wp2
    go_ret
    exact ⟨rfl, HB.out⟩
  have HF : Hid (FewA cs) := Lib.hid (HR.out.1 (by trivial))
  clear HR
  go_wp2_with fail
  refine (few15_calls _ s _ Hs.out).mono ?_
  rintro e u3 ⟨r, rfl, hr, hb⟩
  replace HI := Lib.hid (HI.out.below hb)
  replace Hs := Lib.hid (Hs.out.below hb)
  replace HB := Lib.hid (HB.out.trans (hb.mono HB.out.size))
  clear hb
  have HR := Lib.hid hr
  clear hr
  cases r
  · go_wp2
    go_ret
    exact ⟨rfl, HB.out⟩
  have HFs : Hid (FewW s) := Lib.hid (HR.out.1 (by trivial))
  clear HR
  go_wp2_with fail
  refine (rise15_calls _ s _ Hs.out).mono ?_
  rintro e u4 ⟨r, rfl, hr, hb⟩
  replace HI := Lib.hid (HI.out.below hb)
  replace Hs := Lib.hid (Hs.out.below hb)
  replace HB := Lib.hid (HB.out.trans (hb.mono HB.out.size))
  clear hb
  have HR := Lib.hid hr
  clear hr
  cases r
  · go_wp2
    go_ret
    exact ⟨rfl, HB.out⟩
  have HRs : Hid (RiseW s) := Lib.hid (HR.out.1 (by trivial))
  clear HR
  go_wp2_with fail
  refine (theirs16_calls _ cs _ HI.out (HF.out.le60) (by have := HF.out.2.1; omega)).mono ?_
  rintro e u5 ⟨vm, rfl, hm, hb⟩
  replace HI := Lib.hid (HI.out.below hb)
  replace Hs := Lib.hid (Hs.out.below hb)
  replace HB := Lib.hid (HB.out.trans (hb.mono HB.out.size))
  have HM := Lib.hid (hm)
  clear hb
  clear hm
  obtain ⟨am, qm, rfl⟩ := HM.out.slice
  have HFC : Hid (FewC cs) := Lib.hid (HF.out.fewC HST.out)
  go_wp2_with fail
  refine (theirs15_calls _ s _ Hs.out HFs.out.2).mono ?_
  rintro e u6 ⟨vt, rfl, ht, hb⟩
  replace HI := Lib.hid (HI.out.below hb)
  replace Hs := Lib.hid (Hs.out.below hb)
  replace HM := Lib.hid (HM.out.below hb)
  replace HB := Lib.hid (HB.out.trans (hb.mono HB.out.size))
  have T13 := Lib.hid (ht.rows (by have := HFs.out.2; omega))
  clear hb
  clear ht
  obtain ⟨at13, qt13, rfl⟩ := T13.out.slice
  by_cases h6 : 60000 ≤ lastN cs
  · skip
    go_wp2_with fail
    refine (add_end _ _ cs _ HM.out (by have := HF.out.2.1; omega) h6).mono ?_
    rintro e u7 ⟨vn, rfl, hn, hb⟩
    replace HI := Lib.hid (HI.out.below hb)
    replace Hs := Lib.hid (Hs.out.below hb)
    replace HM := Lib.hid (HM.out.below hb)
    replace T13 := Lib.hid (T13.out.below hb)
    replace HB := Lib.hid (HB.out.trans (hb.mono HB.out.size))
    have HN := Lib.hid (hn)
    clear hb
    clear hn
    obtain ⟨an, qn, rfl⟩ := HN.out.slice
    have t6 : decide ((60000 : Int) ≤ (lastN cs : Int)) = true := by simp; omega
    go_wp2_with fail
    refine (last_calls _ (cs) _ HM.out).mono ?_
    rintro e u8 ⟨rfl, rfl⟩
    go_wp2
    go_ret
    exact ⟨rfl, HB.out⟩
  have h6' : lastN cs < 60000 := by omega
  clear h6
  go_wp2_with fail
  refine (add_more _ _ cs s _ HM.out T13.out (by have := HF.out.2.1; omega) (by have := HFs.out.2; omega) h6').mono ?_
  rintro e u7 ⟨vn, rfl, hn, hb⟩
  replace HI := Lib.hid (HI.out.below hb)
  replace Hs := Lib.hid (Hs.out.below hb)
  replace HM := Lib.hid (HM.out.below hb)
  replace T13 := Lib.hid (T13.out.below hb)
  replace HB := Lib.hid (HB.out.trans (hb.mono HB.out.size))
  have HN := Lib.hid (hn)
  clear hb
  clear hn
  replace HN : Hid (Coms _ vn (addC cs s)) := HN
  obtain ⟨an, qn, rfl⟩ := HN.out.slice
  have HFN : Hid (FewC (addC cs s)) := Lib.hid (few_addC HFC.out HF.out.2.1 HFs.out.2 HRs.out h6')
  have HLE : Hid (lastN cs < 60000) := Lib.hid h6'
  go_wp2_with fail
  refine (last_calls _ (cs) _ HM.out).mono ?_
  rintro e u8 ⟨rfl, rfl⟩
  have HRC : Hid (RiseC cs) := Lib.hid HF.out.2.2
  by_cases hmin : at' ≤ lastN cs
  · have HK : Hid (at' ≤ lastN cs) := Lib.hid hmin
    go_wp2_with fail
    refine (scan_calls _ (addC cs s) (at') _ HN.out HFN.out).mono ?_
    rintro e u9 ⟨vs, rfl, hs, hls, hb⟩
    replace HI := Lib.hid (HI.out.below hb)
    replace Hs := Lib.hid (Hs.out.below hb)
    replace HM := Lib.hid (HM.out.below hb)
    replace T13 := Lib.hid (T13.out.below hb)
    replace HN := Lib.hid (HN.out.below hb)
    replace HB := Lib.hid (HB.out.trans (hb.mono HB.out.size))
    have S1 := Lib.hid (hs.rows (Nat.le_trans hls (by have := (HFN.out).2; omega)))
    clear hb
    have HLS1 := Lib.hid (Nat.le_trans hls (Nat.mul_le_mul_left 60 (HFN.out).2))
    clear hs hls
    obtain ⟨axS1, qsS1, rfl⟩ := S1.out.slice
    go_wp2_with fail
    refine (back_calls _ (scanM (addC cs s) (at')) _ S1.out (Nat.le_trans HLS1.out (by omega))).mono ?_
    rintro e u10 ⟨vb, rfl, hs, hb⟩
    replace HI := Lib.hid (HI.out.below hb)
    replace Hs := Lib.hid (Hs.out.below hb)
    replace HM := Lib.hid (HM.out.below hb)
    replace T13 := Lib.hid (T13.out.below hb)
    replace HN := Lib.hid (HN.out.below hb)
    replace S1 := Lib.hid (S1.out.below hb)
    replace HB := Lib.hid (HB.out.trans (hb.mono HB.out.size))
    have B1 := Lib.hid (hs.rows (Nat.le_trans HLS1.out (by omega)))
    clear hb
    clear hs
    obtain ⟨abB1, qbB1, rfl⟩ := B1.out.slice
    go_wp2_with fail
    refine (scan_calls _ (cs) (at') _ HM.out HFC.out).mono ?_
    rintro e u11 ⟨vs, rfl, hs, hls, hb⟩
    replace HI := Lib.hid (HI.out.below hb)
    replace Hs := Lib.hid (Hs.out.below hb)
    replace HM := Lib.hid (HM.out.below hb)
    replace T13 := Lib.hid (T13.out.below hb)
    replace HN := Lib.hid (HN.out.below hb)
    replace S1 := Lib.hid (S1.out.below hb)
    replace B1 := Lib.hid (B1.out.below hb)
    replace HB := Lib.hid (HB.out.trans (hb.mono HB.out.size))
    have S2 := Lib.hid (hs.rows (Nat.le_trans hls (by have := (HFC.out).2; omega)))
    clear hb
    have HLS2 := Lib.hid (Nat.le_trans hls (Nat.mul_le_mul_left 60 (HFC.out).2))
    clear hs hls
    obtain ⟨axS2, qsS2, rfl⟩ := S2.out.slice
    go_wp2_with fail
    refine (back_calls _ (scanM cs (at')) _ S2.out (Nat.le_trans HLS2.out (by omega))).mono ?_
    rintro e u12 ⟨vb, rfl, hs, hb⟩
    replace HI := Lib.hid (HI.out.below hb)
    replace Hs := Lib.hid (Hs.out.below hb)
    replace HM := Lib.hid (HM.out.below hb)
    replace T13 := Lib.hid (T13.out.below hb)
    replace HN := Lib.hid (HN.out.below hb)
    replace S1 := Lib.hid (S1.out.below hb)
    replace B1 := Lib.hid (B1.out.below hb)
    replace S2 := Lib.hid (S2.out.below hb)
    replace HB := Lib.hid (HB.out.trans (hb.mono HB.out.size))
    have B2 := Lib.hid (hs.rows (Nat.le_trans HLS2.out (by omega)))
    clear hb
    clear hs
    obtain ⟨abB2, qbB2, rfl⟩ := B2.out.slice
    go_wp2_with fail
    refine (pairs_calls _ _ (scanM (addC cs s) (at')) (scanM cs (at')) _ B1.out B2.out).mono ?_
    rintro e u13 ⟨r, rfl, hr, hb⟩
    replace HI := Lib.hid (HI.out.below hb)
    replace Hs := Lib.hid (Hs.out.below hb)
    replace HM := Lib.hid (HM.out.below hb)
    replace T13 := Lib.hid (T13.out.below hb)
    replace HN := Lib.hid (HN.out.below hb)
    replace S1 := Lib.hid (S1.out.below hb)
    replace B1 := Lib.hid (B1.out.below hb)
    replace S2 := Lib.hid (S2.out.below hb)
    replace B2 := Lib.hid (B2.out.below hb)
    replace HB := Lib.hid (HB.out.trans (hb.mono HB.out.size))
    clear hb
    obtain rfl : r = true := hr.2 (scan_past cs s HK.out)
    clear hr
    clear S1 S2 B1 B2 HLS1 HLS2
    have hlt := HLE.out
    go_wp2_with fail
    refine (scan_calls _ (addC cs s) (lastN cs + 1) _ HN.out HFN.out).mono ?_
    rintro e u14 ⟨vs, rfl, hs, hls, hb⟩
    replace HI := Lib.hid (HI.out.below hb)
    replace Hs := Lib.hid (Hs.out.below hb)
    replace HM := Lib.hid (HM.out.below hb)
    replace T13 := Lib.hid (T13.out.below hb)
    replace HN := Lib.hid (HN.out.below hb)
    replace HB := Lib.hid (HB.out.trans (hb.mono HB.out.size))
    have S1 := Lib.hid (hs.rows (Nat.le_trans hls (by have := (HFN.out).2; omega)))
    clear hb
    have HLS1 := Lib.hid (Nat.le_trans hls (Nat.mul_le_mul_left 60 (HFN.out).2))
    clear hs hls
    obtain ⟨axS1, qsS1, rfl⟩ := S1.out.slice
    go_wp2_with fail
    refine (back_calls _ (scanM (addC cs s) (lastN cs + 1)) _ S1.out (Nat.le_trans HLS1.out (by omega))).mono ?_
    rintro e u15 ⟨vb, rfl, hs, hb⟩
    replace HI := Lib.hid (HI.out.below hb)
    replace Hs := Lib.hid (Hs.out.below hb)
    replace HM := Lib.hid (HM.out.below hb)
    replace T13 := Lib.hid (T13.out.below hb)
    replace HN := Lib.hid (HN.out.below hb)
    replace S1 := Lib.hid (S1.out.below hb)
    replace HB := Lib.hid (HB.out.trans (hb.mono HB.out.size))
    have B1 := Lib.hid (hs.rows (Nat.le_trans HLS1.out (by omega)))
    clear hb
    clear hs
    obtain ⟨abB1, qbB1, rfl⟩ := B1.out.slice
    go_wp2_with fail
    refine (scan_calls _ (cs) (lastN cs) _ HM.out HFC.out).mono ?_
    rintro e u16 ⟨vs, rfl, hs, hls, hb⟩
    replace HI := Lib.hid (HI.out.below hb)
    replace Hs := Lib.hid (Hs.out.below hb)
    replace HM := Lib.hid (HM.out.below hb)
    replace T13 := Lib.hid (T13.out.below hb)
    replace HN := Lib.hid (HN.out.below hb)
    replace S1 := Lib.hid (S1.out.below hb)
    replace B1 := Lib.hid (B1.out.below hb)
    replace HB := Lib.hid (HB.out.trans (hb.mono HB.out.size))
    have S2 := Lib.hid (hs.rows (Nat.le_trans hls (by have := (HFC.out).2; omega)))
    clear hb
    have HLS2 := Lib.hid (Nat.le_trans hls (Nat.mul_le_mul_left 60 (HFC.out).2))
    clear hs hls
    obtain ⟨axS2, qsS2, rfl⟩ := S2.out.slice
    go_wp2_with fail
    refine (theirs15_calls _ s _ Hs.out HFs.out.2).mono ?_
    rintro e u17 ⟨vt, rfl, ht, hb⟩
    replace HI := Lib.hid (HI.out.below hb)
    replace Hs := Lib.hid (Hs.out.below hb)
    replace HM := Lib.hid (HM.out.below hb)
    replace T13 := Lib.hid (T13.out.below hb)
    replace HN := Lib.hid (HN.out.below hb)
    replace S1 := Lib.hid (S1.out.below hb)
    replace B1 := Lib.hid (B1.out.below hb)
    replace S2 := Lib.hid (S2.out.below hb)
    replace HB := Lib.hid (HB.out.trans (hb.mono HB.out.size))
    have T14 := Lib.hid (ht.rows (by have := HFs.out.2; omega))
    clear hb
    clear ht
    obtain ⟨at14, qt14, rfl⟩ := T14.out.slice
    go_wp2_with fail
    refine (over_calls _ _ (scanM cs (lastN cs)) s 3000 _ S2.out T14.out (by have := HLS2.out; have := HFs.out.2; omega) (by decide)).mono ?_
    rintro e u18 ⟨vo, rfl, ho, hlo, hb⟩
    replace HI := Lib.hid (HI.out.below hb)
    replace Hs := Lib.hid (Hs.out.below hb)
    replace HM := Lib.hid (HM.out.below hb)
    replace T13 := Lib.hid (T13.out.below hb)
    replace HN := Lib.hid (HN.out.below hb)
    replace S1 := Lib.hid (S1.out.below hb)
    replace B1 := Lib.hid (B1.out.below hb)
    replace S2 := Lib.hid (S2.out.below hb)
    replace T14 := Lib.hid (T14.out.below hb)
    replace HB := Lib.hid (HB.out.trans (hb.mono HB.out.size))
    have O2 := Lib.hid (ho.rows (by omega))
    clear hb
    have HLO := Lib.hid hlo
    clear ho hlo
    obtain ⟨axo, qso, rfl⟩ := O2.out.slice
    go_wp2_with fail
    refine (back_calls _ (overM (scanM cs (lastN cs)) s) _ O2.out (Nat.le_trans HLO.out (by omega))).mono ?_
    rintro e u19 ⟨vb, rfl, hs, hb⟩
    replace HI := Lib.hid (HI.out.below hb)
    replace Hs := Lib.hid (Hs.out.below hb)
    replace HM := Lib.hid (HM.out.below hb)
    replace T13 := Lib.hid (T13.out.below hb)
    replace HN := Lib.hid (HN.out.below hb)
    replace S1 := Lib.hid (S1.out.below hb)
    replace B1 := Lib.hid (B1.out.below hb)
    replace S2 := Lib.hid (S2.out.below hb)
    replace T14 := Lib.hid (T14.out.below hb)
    replace O2 := Lib.hid (O2.out.below hb)
    replace HB := Lib.hid (HB.out.trans (hb.mono HB.out.size))
    have B2 := Lib.hid (hs.rows (Nat.le_trans HLO.out (by omega)))
    clear hb
    clear hs
    obtain ⟨abB2, qbB2, rfl⟩ := B2.out.slice
    go_wp2_with fail
    refine (pairs_calls _ _ (scanM (addC cs s) (lastN cs + 1)) (overM (scanM cs (lastN cs)) s) _ B1.out B2.out).mono ?_
    rintro e u20 ⟨r, rfl, hr, hb⟩
    replace HI := Lib.hid (HI.out.below hb)
    replace Hs := Lib.hid (Hs.out.below hb)
    replace HM := Lib.hid (HM.out.below hb)
    replace T13 := Lib.hid (T13.out.below hb)
    replace HN := Lib.hid (HN.out.below hb)
    replace S1 := Lib.hid (S1.out.below hb)
    replace B1 := Lib.hid (B1.out.below hb)
    replace S2 := Lib.hid (S2.out.below hb)
    replace T14 := Lib.hid (T14.out.below hb)
    replace O2 := Lib.hid (O2.out.below hb)
    replace B2 := Lib.hid (B2.out.below hb)
    replace HB := Lib.hid (HB.out.trans (hb.mono HB.out.size))
    clear hb
    obtain rfl : r = true := hr.2 (scan_new HRC.out s)
    clear hr
    go_wp2_with fail
    refine (last_calls _ (addC cs s) _ HN.out).mono ?_
    rintro e u21 ⟨rfl, rfl⟩
    rw [last_addC]
    go_wp2
    go_ret
    exact ⟨rfl, HB.out⟩
  · have HK : Hid (lastN cs ≤ lastN cs) := Lib.hid (Nat.le_refl _)
    go_wp2_with fail
    refine (scan_calls _ (addC cs s) (lastN cs) _ HN.out HFN.out).mono ?_
    rintro e u9 ⟨vs, rfl, hs, hls, hb⟩
    replace HI := Lib.hid (HI.out.below hb)
    replace Hs := Lib.hid (Hs.out.below hb)
    replace HM := Lib.hid (HM.out.below hb)
    replace T13 := Lib.hid (T13.out.below hb)
    replace HN := Lib.hid (HN.out.below hb)
    replace HB := Lib.hid (HB.out.trans (hb.mono HB.out.size))
    have S1 := Lib.hid (hs.rows (Nat.le_trans hls (by have := (HFN.out).2; omega)))
    clear hb
    have HLS1 := Lib.hid (Nat.le_trans hls (Nat.mul_le_mul_left 60 (HFN.out).2))
    clear hs hls
    obtain ⟨axS1, qsS1, rfl⟩ := S1.out.slice
    go_wp2_with fail
    refine (back_calls _ (scanM (addC cs s) (lastN cs)) _ S1.out (Nat.le_trans HLS1.out (by omega))).mono ?_
    rintro e u10 ⟨vb, rfl, hs, hb⟩
    replace HI := Lib.hid (HI.out.below hb)
    replace Hs := Lib.hid (Hs.out.below hb)
    replace HM := Lib.hid (HM.out.below hb)
    replace T13 := Lib.hid (T13.out.below hb)
    replace HN := Lib.hid (HN.out.below hb)
    replace S1 := Lib.hid (S1.out.below hb)
    replace HB := Lib.hid (HB.out.trans (hb.mono HB.out.size))
    have B1 := Lib.hid (hs.rows (Nat.le_trans HLS1.out (by omega)))
    clear hb
    clear hs
    obtain ⟨abB1, qbB1, rfl⟩ := B1.out.slice
    go_wp2_with fail
    refine (scan_calls _ (cs) (lastN cs) _ HM.out HFC.out).mono ?_
    rintro e u11 ⟨vs, rfl, hs, hls, hb⟩
    replace HI := Lib.hid (HI.out.below hb)
    replace Hs := Lib.hid (Hs.out.below hb)
    replace HM := Lib.hid (HM.out.below hb)
    replace T13 := Lib.hid (T13.out.below hb)
    replace HN := Lib.hid (HN.out.below hb)
    replace S1 := Lib.hid (S1.out.below hb)
    replace B1 := Lib.hid (B1.out.below hb)
    replace HB := Lib.hid (HB.out.trans (hb.mono HB.out.size))
    have S2 := Lib.hid (hs.rows (Nat.le_trans hls (by have := (HFC.out).2; omega)))
    clear hb
    have HLS2 := Lib.hid (Nat.le_trans hls (Nat.mul_le_mul_left 60 (HFC.out).2))
    clear hs hls
    obtain ⟨axS2, qsS2, rfl⟩ := S2.out.slice
    go_wp2_with fail
    refine (back_calls _ (scanM cs (lastN cs)) _ S2.out (Nat.le_trans HLS2.out (by omega))).mono ?_
    rintro e u12 ⟨vb, rfl, hs, hb⟩
    replace HI := Lib.hid (HI.out.below hb)
    replace Hs := Lib.hid (Hs.out.below hb)
    replace HM := Lib.hid (HM.out.below hb)
    replace T13 := Lib.hid (T13.out.below hb)
    replace HN := Lib.hid (HN.out.below hb)
    replace S1 := Lib.hid (S1.out.below hb)
    replace B1 := Lib.hid (B1.out.below hb)
    replace S2 := Lib.hid (S2.out.below hb)
    replace HB := Lib.hid (HB.out.trans (hb.mono HB.out.size))
    have B2 := Lib.hid (hs.rows (Nat.le_trans HLS2.out (by omega)))
    clear hb
    clear hs
    obtain ⟨abB2, qbB2, rfl⟩ := B2.out.slice
    go_wp2_with fail
    refine (pairs_calls _ _ (scanM (addC cs s) (lastN cs)) (scanM cs (lastN cs)) _ B1.out B2.out).mono ?_
    rintro e u13 ⟨r, rfl, hr, hb⟩
    replace HI := Lib.hid (HI.out.below hb)
    replace Hs := Lib.hid (Hs.out.below hb)
    replace HM := Lib.hid (HM.out.below hb)
    replace T13 := Lib.hid (T13.out.below hb)
    replace HN := Lib.hid (HN.out.below hb)
    replace S1 := Lib.hid (S1.out.below hb)
    replace B1 := Lib.hid (B1.out.below hb)
    replace S2 := Lib.hid (S2.out.below hb)
    replace B2 := Lib.hid (B2.out.below hb)
    replace HB := Lib.hid (HB.out.trans (hb.mono HB.out.size))
    clear hb
    obtain rfl : r = true := hr.2 (scan_past cs s HK.out)
    clear hr
    clear S1 S2 B1 B2 HLS1 HLS2
    have hlt := HLE.out
    go_wp2_with fail
    refine (scan_calls _ (addC cs s) (lastN cs + 1) _ HN.out HFN.out).mono ?_
    rintro e u14 ⟨vs, rfl, hs, hls, hb⟩
    replace HI := Lib.hid (HI.out.below hb)
    replace Hs := Lib.hid (Hs.out.below hb)
    replace HM := Lib.hid (HM.out.below hb)
    replace T13 := Lib.hid (T13.out.below hb)
    replace HN := Lib.hid (HN.out.below hb)
    replace HB := Lib.hid (HB.out.trans (hb.mono HB.out.size))
    have S1 := Lib.hid (hs.rows (Nat.le_trans hls (by have := (HFN.out).2; omega)))
    clear hb
    have HLS1 := Lib.hid (Nat.le_trans hls (Nat.mul_le_mul_left 60 (HFN.out).2))
    clear hs hls
    obtain ⟨axS1, qsS1, rfl⟩ := S1.out.slice
    go_wp2_with fail
    refine (back_calls _ (scanM (addC cs s) (lastN cs + 1)) _ S1.out (Nat.le_trans HLS1.out (by omega))).mono ?_
    rintro e u15 ⟨vb, rfl, hs, hb⟩
    replace HI := Lib.hid (HI.out.below hb)
    replace Hs := Lib.hid (Hs.out.below hb)
    replace HM := Lib.hid (HM.out.below hb)
    replace T13 := Lib.hid (T13.out.below hb)
    replace HN := Lib.hid (HN.out.below hb)
    replace S1 := Lib.hid (S1.out.below hb)
    replace HB := Lib.hid (HB.out.trans (hb.mono HB.out.size))
    have B1 := Lib.hid (hs.rows (Nat.le_trans HLS1.out (by omega)))
    clear hb
    clear hs
    obtain ⟨abB1, qbB1, rfl⟩ := B1.out.slice
    go_wp2_with fail
    refine (scan_calls _ (cs) (lastN cs) _ HM.out HFC.out).mono ?_
    rintro e u16 ⟨vs, rfl, hs, hls, hb⟩
    replace HI := Lib.hid (HI.out.below hb)
    replace Hs := Lib.hid (Hs.out.below hb)
    replace HM := Lib.hid (HM.out.below hb)
    replace T13 := Lib.hid (T13.out.below hb)
    replace HN := Lib.hid (HN.out.below hb)
    replace S1 := Lib.hid (S1.out.below hb)
    replace B1 := Lib.hid (B1.out.below hb)
    replace HB := Lib.hid (HB.out.trans (hb.mono HB.out.size))
    have S2 := Lib.hid (hs.rows (Nat.le_trans hls (by have := (HFC.out).2; omega)))
    clear hb
    have HLS2 := Lib.hid (Nat.le_trans hls (Nat.mul_le_mul_left 60 (HFC.out).2))
    clear hs hls
    obtain ⟨axS2, qsS2, rfl⟩ := S2.out.slice
    go_wp2_with fail
    refine (theirs15_calls _ s _ Hs.out HFs.out.2).mono ?_
    rintro e u17 ⟨vt, rfl, ht, hb⟩
    replace HI := Lib.hid (HI.out.below hb)
    replace Hs := Lib.hid (Hs.out.below hb)
    replace HM := Lib.hid (HM.out.below hb)
    replace T13 := Lib.hid (T13.out.below hb)
    replace HN := Lib.hid (HN.out.below hb)
    replace S1 := Lib.hid (S1.out.below hb)
    replace B1 := Lib.hid (B1.out.below hb)
    replace S2 := Lib.hid (S2.out.below hb)
    replace HB := Lib.hid (HB.out.trans (hb.mono HB.out.size))
    have T15 := Lib.hid (ht.rows (by have := HFs.out.2; omega))
    clear hb
    clear ht
    obtain ⟨at15, qt15, rfl⟩ := T15.out.slice
    go_wp2_with fail
    refine (over_calls _ _ (scanM cs (lastN cs)) s 3000 _ S2.out T15.out (by have := HLS2.out; have := HFs.out.2; omega) (by decide)).mono ?_
    rintro e u18 ⟨vo, rfl, ho, hlo, hb⟩
    replace HI := Lib.hid (HI.out.below hb)
    replace Hs := Lib.hid (Hs.out.below hb)
    replace HM := Lib.hid (HM.out.below hb)
    replace T13 := Lib.hid (T13.out.below hb)
    replace HN := Lib.hid (HN.out.below hb)
    replace S1 := Lib.hid (S1.out.below hb)
    replace B1 := Lib.hid (B1.out.below hb)
    replace S2 := Lib.hid (S2.out.below hb)
    replace T15 := Lib.hid (T15.out.below hb)
    replace HB := Lib.hid (HB.out.trans (hb.mono HB.out.size))
    have O2 := Lib.hid (ho.rows (by omega))
    clear hb
    have HLO := Lib.hid hlo
    clear ho hlo
    obtain ⟨axo, qso, rfl⟩ := O2.out.slice
    go_wp2_with fail
    refine (back_calls _ (overM (scanM cs (lastN cs)) s) _ O2.out (Nat.le_trans HLO.out (by omega))).mono ?_
    rintro e u19 ⟨vb, rfl, hs, hb⟩
    replace HI := Lib.hid (HI.out.below hb)
    replace Hs := Lib.hid (Hs.out.below hb)
    replace HM := Lib.hid (HM.out.below hb)
    replace T13 := Lib.hid (T13.out.below hb)
    replace HN := Lib.hid (HN.out.below hb)
    replace S1 := Lib.hid (S1.out.below hb)
    replace B1 := Lib.hid (B1.out.below hb)
    replace S2 := Lib.hid (S2.out.below hb)
    replace T15 := Lib.hid (T15.out.below hb)
    replace O2 := Lib.hid (O2.out.below hb)
    replace HB := Lib.hid (HB.out.trans (hb.mono HB.out.size))
    have B2 := Lib.hid (hs.rows (Nat.le_trans HLO.out (by omega)))
    clear hb
    clear hs
    obtain ⟨abB2, qbB2, rfl⟩ := B2.out.slice
    go_wp2_with fail
    refine (pairs_calls _ _ (scanM (addC cs s) (lastN cs + 1)) (overM (scanM cs (lastN cs)) s) _ B1.out B2.out).mono ?_
    rintro e u20 ⟨r, rfl, hr, hb⟩
    replace HI := Lib.hid (HI.out.below hb)
    replace Hs := Lib.hid (Hs.out.below hb)
    replace HM := Lib.hid (HM.out.below hb)
    replace T13 := Lib.hid (T13.out.below hb)
    replace HN := Lib.hid (HN.out.below hb)
    replace S1 := Lib.hid (S1.out.below hb)
    replace B1 := Lib.hid (B1.out.below hb)
    replace S2 := Lib.hid (S2.out.below hb)
    replace T15 := Lib.hid (T15.out.below hb)
    replace O2 := Lib.hid (O2.out.below hb)
    replace B2 := Lib.hid (B2.out.below hb)
    replace HB := Lib.hid (HB.out.trans (hb.mono HB.out.size))
    clear hb
    obtain rfl : r = true := hr.2 (scan_new HRC.out s)
    clear hr
    go_wp2_with fail
    refine (last_calls _ (addC cs s) _ HN.out).mono ?_
    rintro e u21 ⟨rfl, rfl⟩
    rw [last_addC]
    go_wp2
    go_ret
    exact ⟨rfl, HB.out⟩
end Go.Proofs.Ytdeecdebhigafaa
