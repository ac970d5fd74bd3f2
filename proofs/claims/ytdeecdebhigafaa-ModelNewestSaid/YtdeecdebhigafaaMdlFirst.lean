/- MODEL: the walk of ModelFirst. -/
import Derived.Test.YtdeecdebhigafaaMdlCommon
namespace Go.Proofs.Ytdeecdebhigafaa
open Go Go.RowKit

set_option maxRecDepth 100000 in
set_option maxHeartbeats 4000000 in
theorem modelFirst_walk (v u t : Value) (cs : List Ct) (a b : List Wr) (w : World) (hI : Coms w v cs) (hst : ∀ c ∈ cs, c.stamp < 18446744073709551616) (ha : Rows EW w u a) (hb : Rows EW w t b) :
    Calls Try.prog 6 #[v, u, t] w fun e w' => e = .returned (.bool true) ∧ Below w.heap.size w w' := by
  obtain ⟨a0, q0, rfl⟩ := hI.slice
  have HI := Lib.hid hI
  have HST := Lib.hid hst
  obtain ⟨ada, qa, rfl⟩ := ha.slice
  have Ha := Lib.hid ha
  obtain ⟨adb, qb, rfl⟩ := hb.slice
  have Hb := Lib.hid hb
  have HB : Hid (Below w.heap.size w w) := Lib.hid (Below.refl _ _)
  clear hI hst ha hb
  go_enter Try.func6, Try.ntmps6
  go_wp2_with fail
  refine (alive16_calls _).mono ?_
  rintro e u1 ⟨rfl, hb⟩
  replace HI := Lib.hid (HI.out.below hb)
  replace Ha := Lib.hid (Ha.out.below hb)
  replace Hb := Lib.hid (Hb.out.below hb)
  replace HB := Lib.hid (HB.out.trans (hb.mono HB.out.size))
  clear hb
  go_wp2_with fail
  refine (few16_calls _ cs _ HI.out).mono ?_
  rintro e u2 ⟨r, rfl, hr, hb⟩
  replace HI := Lib.hid (HI.out.below hb)
  replace Ha := Lib.hid (Ha.out.below hb)
  replace Hb := Lib.hid (Hb.out.below hb)
  replace HB := Lib.hid (HB.out.trans (hb.mono HB.out.size))
  clear hb
  have HR := Lib.hid hr
  clear hr
  cases r
  · go_wp2
    go_ret
    exact ⟨rfl, HB.out⟩
  have HF : Hid (FewA cs) := Lib.hid (HR.out.1 (by trivial))
  clear HR
  go_wp2_with fail
  refine (few15_calls _ a _ Ha.out).mono ?_
  rintro e u3 ⟨r, rfl, hr, hb⟩
  replace HI := Lib.hid (HI.out.below hb)
  replace Ha := Lib.hid (Ha.out.below hb)
  replace Hb := Lib.hid (Hb.out.below hb)
  replace HB := Lib.hid (HB.out.trans (hb.mono HB.out.size))
  clear hb
  have HR := Lib.hid hr
  clear hr
  cases r
  · go_wp2
    go_ret
    exact ⟨rfl, HB.out⟩
  have HFa : Hid (FewW a) := Lib.hid (HR.out.1 (by trivial))
  clear HR
  go_wp2_with fail
  refine (few15_calls _ b _ Hb.out).mono ?_
  rintro e u4 ⟨r, rfl, hr, hb⟩
  replace HI := Lib.hid (HI.out.below hb)
  replace Ha := Lib.hid (Ha.out.below hb)
  replace Hb := Lib.hid (Hb.out.below hb)
  replace HB := Lib.hid (HB.out.trans (hb.mono HB.out.size))
  clear hb
  have HR := Lib.hid hr
  clear hr
  cases r
  · go_wp2
    go_ret
    exact ⟨rfl, HB.out⟩
  have HFb : Hid (FewW b) := Lib.hid (HR.out.1 (by trivial))
  clear HR
  go_wp2_with fail
  refine (rise15_calls _ a _ Ha.out).mono ?_
  rintro e u5 ⟨r, rfl, hr, hb⟩
  replace HI := Lib.hid (HI.out.below hb)
  replace Ha := Lib.hid (Ha.out.below hb)
  replace Hb := Lib.hid (Hb.out.below hb)
  replace HB := Lib.hid (HB.out.trans (hb.mono HB.out.size))
  clear hb
  have HR := Lib.hid hr
  clear hr
  cases r
  · go_wp2
    go_ret
    exact ⟨rfl, HB.out⟩
  have HRa : Hid (RiseW a) := Lib.hid (HR.out.1 (by trivial))
  clear HR
  go_wp2_with fail
  refine (rise15_calls _ b _ Hb.out).mono ?_
  rintro e u6 ⟨r, rfl, hr, hb⟩
  replace HI := Lib.hid (HI.out.below hb)
  replace Ha := Lib.hid (Ha.out.below hb)
  replace Hb := Lib.hid (Hb.out.below hb)
  replace HB := Lib.hid (HB.out.trans (hb.mono HB.out.size))
  clear hb
  have HR := Lib.hid hr
  clear hr
  cases r
  · go_wp2
    go_ret
    exact ⟨rfl, HB.out⟩
  have HRb : Hid (RiseW b) := Lib.hid (HR.out.1 (by trivial))
  clear HR
  go_wp2_with fail
  refine (theirs16_calls _ cs _ HI.out (HF.out.le60) (by have := HF.out.2.1; omega)).mono ?_
  rintro e u7 ⟨vm, rfl, hm, hb⟩
  replace HI := Lib.hid (HI.out.below hb)
  replace Ha := Lib.hid (Ha.out.below hb)
  replace Hb := Lib.hid (Hb.out.below hb)
  replace HB := Lib.hid (HB.out.trans (hb.mono HB.out.size))
  have HM := Lib.hid (hm)
  clear hb
  clear hm
  obtain ⟨am, qm, rfl⟩ := HM.out.slice
  have HFC : Hid (FewC cs) := Lib.hid (HF.out.fewC HST.out)
  have HRC : Hid (RiseC cs) := Lib.hid HF.out.2.2
  go_wp2_with fail
  refine (last_calls _ (cs) _ HM.out).mono ?_
  rintro e u8 ⟨rfl, rfl⟩
  go_wp2_with fail
  refine (theirs15_calls _ a _ Ha.out HFa.out.2).mono ?_
  rintro e u9 ⟨vt, rfl, ht, hb⟩
  replace HI := Lib.hid (HI.out.below hb)
  replace Ha := Lib.hid (Ha.out.below hb)
  replace Hb := Lib.hid (Hb.out.below hb)
  replace HM := Lib.hid (HM.out.below hb)
  replace HB := Lib.hid (HB.out.trans (hb.mono HB.out.size))
  have T1 := Lib.hid (ht.rows (by have := HFa.out.2; omega))
  clear hb
  clear ht
  obtain ⟨at1, qt1, rfl⟩ := T1.out.slice
  go_wp2_with fail
  refine (clash_calls _ _ (cs) a (lastN cs) _ HM.out T1.out HRa.out).mono ?_
  rintro e u10 ⟨rfl, hb⟩
  replace HI := Lib.hid (HI.out.below hb)
  replace Ha := Lib.hid (Ha.out.below hb)
  replace Hb := Lib.hid (Hb.out.below hb)
  replace HM := Lib.hid (HM.out.below hb)
  replace T1 := Lib.hid (T1.out.below hb)
  replace HB := Lib.hid (HB.out.trans (hb.mono HB.out.size))
  clear hb
  rw [clash_last HRC.out a (Nat.le_refl _)]
  go_wp2_with fail
  refine (theirs15_calls _ b _ Hb.out HFb.out.2).mono ?_
  rintro e u11 ⟨vt, rfl, ht, hb⟩
  replace HI := Lib.hid (HI.out.below hb)
  replace Ha := Lib.hid (Ha.out.below hb)
  replace Hb := Lib.hid (Hb.out.below hb)
  replace HM := Lib.hid (HM.out.below hb)
  replace T1 := Lib.hid (T1.out.below hb)
  replace HB := Lib.hid (HB.out.trans (hb.mono HB.out.size))
  have T2 := Lib.hid (ht.rows (by have := HFb.out.2; omega))
  clear hb
  clear ht
  obtain ⟨at2, qt2, rfl⟩ := T2.out.slice
  go_wp2_with fail
  refine (clash_calls _ _ (cs) b (lastN cs) _ HM.out T2.out HRb.out).mono ?_
  rintro e u12 ⟨rfl, hb⟩
  replace HI := Lib.hid (HI.out.below hb)
  replace Ha := Lib.hid (Ha.out.below hb)
  replace Hb := Lib.hid (Hb.out.below hb)
  replace HM := Lib.hid (HM.out.below hb)
  replace T1 := Lib.hid (T1.out.below hb)
  replace T2 := Lib.hid (T2.out.below hb)
  replace HB := Lib.hid (HB.out.trans (hb.mono HB.out.size))
  clear hb
  rw [clash_last HRC.out b (Nat.le_refl _)]
  go_wp2_with fail
  refine (theirs15_calls _ a _ Ha.out HFa.out.2).mono ?_
  rintro e u13 ⟨vt, rfl, ht, hb⟩
  replace HI := Lib.hid (HI.out.below hb)
  replace Ha := Lib.hid (Ha.out.below hb)
  replace Hb := Lib.hid (Hb.out.below hb)
  replace HM := Lib.hid (HM.out.below hb)
  replace HB := Lib.hid (HB.out.trans (hb.mono HB.out.size))
  have T3 := Lib.hid (ht.rows (by have := HFa.out.2; omega))
  clear hb
  clear ht
  obtain ⟨at3, qt3, rfl⟩ := T3.out.slice
  by_cases h6 : 60000 ≤ lastN cs
  · skip
    go_wp2_with fail
    refine (add_end _ _ cs _ HM.out (by have := HF.out.2.1; omega) h6).mono ?_
    rintro e u14 ⟨vn, rfl, hn, hb⟩
    replace HI := Lib.hid (HI.out.below hb)
    replace Ha := Lib.hid (Ha.out.below hb)
    replace Hb := Lib.hid (Hb.out.below hb)
    replace HM := Lib.hid (HM.out.below hb)
    replace T3 := Lib.hid (T3.out.below hb)
    replace HB := Lib.hid (HB.out.trans (hb.mono HB.out.size))
    have HN := Lib.hid (hn)
    clear hb
    clear hn
    obtain ⟨an, qn, rfl⟩ := HN.out.slice
    go_wp2
    go_ret
    exact ⟨rfl, HB.out⟩
  have h6' : lastN cs < 60000 := by omega
  clear h6
  go_wp2_with fail
  refine (add_more _ _ cs a _ HM.out T3.out (by have := HF.out.2.1; omega) (by have := HFa.out.2; omega) h6').mono ?_
  rintro e u14 ⟨vn, rfl, hn, hb⟩
  replace HI := Lib.hid (HI.out.below hb)
  replace Ha := Lib.hid (Ha.out.below hb)
  replace Hb := Lib.hid (Hb.out.below hb)
  replace HM := Lib.hid (HM.out.below hb)
  replace T3 := Lib.hid (T3.out.below hb)
  replace HB := Lib.hid (HB.out.trans (hb.mono HB.out.size))
  have HN := Lib.hid (hn)
  clear hb
  clear hn
  replace HN : Hid (Coms _ vn (addC cs a)) := HN
  obtain ⟨an, qn, rfl⟩ := HN.out.slice
  have HFN : Hid (FewC (addC cs a)) := Lib.hid (few_addC HFC.out HF.out.2.1 HFa.out.2 HRa.out h6')
  have HLE : Hid (lastN cs < 60000) := Lib.hid h6'
  have hlt := HLE.out
  go_wp2_with fail
  refine (theirs15_calls _ b _ Hb.out HFb.out.2).mono ?_
  rintro e u15 ⟨vt, rfl, ht, hb⟩
  replace HI := Lib.hid (HI.out.below hb)
  replace Ha := Lib.hid (Ha.out.below hb)
  replace Hb := Lib.hid (Hb.out.below hb)
  replace HM := Lib.hid (HM.out.below hb)
  replace T3 := Lib.hid (T3.out.below hb)
  replace HN := Lib.hid (HN.out.below hb)
  replace HB := Lib.hid (HB.out.trans (hb.mono HB.out.size))
  have T4 := Lib.hid (ht.rows (by have := HFb.out.2; omega))
  clear hb
  clear ht
  obtain ⟨at4, qt4, rfl⟩ := T4.out.slice
  go_wp2_with fail
  refine (clash_calls _ _ (addC cs a) b (lastN cs) _ HN.out T4.out HRb.out).mono ?_
  rintro e u16 ⟨rfl, hb⟩
  replace HI := Lib.hid (HI.out.below hb)
  replace Ha := Lib.hid (Ha.out.below hb)
  replace Hb := Lib.hid (Hb.out.below hb)
  replace HM := Lib.hid (HM.out.below hb)
  replace T3 := Lib.hid (T3.out.below hb)
  replace HN := Lib.hid (HN.out.below hb)
  replace T4 := Lib.hid (T4.out.below hb)
  replace HB := Lib.hid (HB.out.trans (hb.mono HB.out.size))
  clear hb
  rw [clash_new HRC.out a b]
  go_wp2_with fail
  refine (theirs15_calls _ a _ Ha.out HFa.out.2).mono ?_
  rintro e u17 ⟨vt, rfl, ht, hb⟩
  replace HI := Lib.hid (HI.out.below hb)
  replace Ha := Lib.hid (Ha.out.below hb)
  replace Hb := Lib.hid (Hb.out.below hb)
  replace HM := Lib.hid (HM.out.below hb)
  replace T3 := Lib.hid (T3.out.below hb)
  replace HN := Lib.hid (HN.out.below hb)
  replace T4 := Lib.hid (T4.out.below hb)
  replace HB := Lib.hid (HB.out.trans (hb.mono HB.out.size))
  have T5 := Lib.hid (ht.rows (by have := HFa.out.2; omega))
  clear hb
  clear ht
  obtain ⟨at5, qt5, rfl⟩ := T5.out.slice
  go_wp2_with fail
  refine (theirs15_calls _ b _ Hb.out HFb.out.2).mono ?_
  rintro e u18 ⟨vt, rfl, ht, hb⟩
  replace HI := Lib.hid (HI.out.below hb)
  replace Ha := Lib.hid (Ha.out.below hb)
  replace Hb := Lib.hid (Hb.out.below hb)
  replace HM := Lib.hid (HM.out.below hb)
  replace T3 := Lib.hid (T3.out.below hb)
  replace HN := Lib.hid (HN.out.below hb)
  replace T4 := Lib.hid (T4.out.below hb)
  replace T5 := Lib.hid (T5.out.below hb)
  replace HB := Lib.hid (HB.out.trans (hb.mono HB.out.size))
  have T6 := Lib.hid (ht.rows (by have := HFb.out.2; omega))
  clear hb
  clear ht
  obtain ⟨at6, qt6, rfl⟩ := T6.out.slice
  go_wp2_with fail
  refine (meet_calls _ _ a b _ T5.out T6.out HRb.out).mono ?_
  rintro e u19 ⟨rfl, hb⟩
  replace HI := Lib.hid (HI.out.below hb)
  replace Ha := Lib.hid (Ha.out.below hb)
  replace Hb := Lib.hid (Hb.out.below hb)
  replace HM := Lib.hid (HM.out.below hb)
  replace T3 := Lib.hid (T3.out.below hb)
  replace HN := Lib.hid (HN.out.below hb)
  replace T4 := Lib.hid (T4.out.below hb)
  replace T5 := Lib.hid (T5.out.below hb)
  replace T6 := Lib.hid (T6.out.below hb)
  replace HB := Lib.hid (HB.out.trans (hb.mono HB.out.size))
  clear hb
  have hself : ((meetB a b : Bool) == meetB a b) = true := beq_self_eq_true _
  go_wp2_with fail
  refine (theirs15_calls _ b _ Hb.out HFb.out.2).mono ?_
  rintro e u20 ⟨vt, rfl, ht, hb⟩
  replace HI := Lib.hid (HI.out.below hb)
  replace Ha := Lib.hid (Ha.out.below hb)
  replace Hb := Lib.hid (Hb.out.below hb)
  replace HM := Lib.hid (HM.out.below hb)
  replace T3 := Lib.hid (T3.out.below hb)
  replace HN := Lib.hid (HN.out.below hb)
  replace T4 := Lib.hid (T4.out.below hb)
  replace T5 := Lib.hid (T5.out.below hb)
  replace T6 := Lib.hid (T6.out.below hb)
  replace HB := Lib.hid (HB.out.trans (hb.mono HB.out.size))
  have T7 := Lib.hid (ht.rows (by have := HFb.out.2; omega))
  clear hb
  clear ht
  obtain ⟨at7, qt7, rfl⟩ := T7.out.slice
  go_wp2_with fail
  refine (clash_calls _ _ (addC cs a) b (lastN cs + 1) _ HN.out T7.out HRb.out).mono ?_
  rintro e u21 ⟨rfl, hb⟩
  replace HI := Lib.hid (HI.out.below hb)
  replace Ha := Lib.hid (Ha.out.below hb)
  replace Hb := Lib.hid (Hb.out.below hb)
  replace HM := Lib.hid (HM.out.below hb)
  replace T3 := Lib.hid (T3.out.below hb)
  replace HN := Lib.hid (HN.out.below hb)
  replace T4 := Lib.hid (T4.out.below hb)
  replace T5 := Lib.hid (T5.out.below hb)
  replace T6 := Lib.hid (T6.out.below hb)
  replace T7 := Lib.hid (T7.out.below hb)
  replace HB := Lib.hid (HB.out.trans (hb.mono HB.out.size))
  clear hb
  rw [clash_behind HRC.out a b]
  go_wp2
  go_ret
  exact ⟨rfl, HB.out⟩
end Go.Proofs.Ytdeecdebhigafaa
