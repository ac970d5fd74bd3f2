/- MODEL: the walk of ModelOthers. -/
import Derived.Test.YtdeecdebhigafaaMdlCommon
namespace Go.Proofs.Ytdeecdebhigafaa
open Go Go.RowKit

set_option maxRecDepth 100000 in
set_option maxHeartbeats 4000000 in
theorem modelOthers_walk (v u : Value) (cs : List Ct) (s : List Wr) (key : ByteArray) (w : World) (hI : Coms w v cs) (hst : ∀ c ∈ cs, c.stamp < 18446744073709551616) (hs : Rows EW w u s) :
    Calls Try.prog 8 #[v, u, .string key] w fun e w' => e = .returned (.bool true) ∧ Below w.heap.size w w' := by
  obtain ⟨a0, q0, rfl⟩ := hI.slice
  have HI := Lib.hid hI
  have HST := Lib.hid hst
  obtain ⟨ads, qs, rfl⟩ := hs.slice
  have Hs := Lib.hid hs
  have HB : Hid (Below w.heap.size w w) := Lib.hid (Below.refl _ _)
  clear hI hst hs
  go_enter Try.func8, Try.ntmps8
  go_wp2_with fail
  refine (alive16_calls _).mono ?_
  rintro e u1 ⟨rfl, hb⟩
  replace HI := Lib.hid (HI.out.below hb)
  replace Hs := Lib.hid (Hs.out.below hb)
  replace HB := Lib.hid (HB.out.trans (hb.mono HB.out.size))
  clear hb
  go_wp2_with fail
  refine (few16_calls _ cs _ HI.out).mono ?_
  rintro e u2 ⟨r, rfl, hr, hb⟩
  replace HI := Lib.hid (HI.out.below hb)
  replace Hs := Lib.hid (Hs.out.below hb)
  replace HB := Lib.hid (HB.out.trans (hb.mono HB.out.size))
  clear hb
  have HR := Lib.hid hr
  clear hr
  cases r
  · go_wp2
    go_ret
    exact ⟨rfl, HB.out⟩
  have HF : Hid (FewA cs) := Lib.hid (HR.out.1 (by trivial))
  clear HR
  go_wp2_with fail
  refine (few15_calls _ s _ Hs.out).mono ?_
  rintro e u3 ⟨r, rfl, hr, hb⟩
  replace HI := Lib.hid (HI.out.below hb)
  replace Hs := Lib.hid (Hs.out.below hb)
  replace HB := Lib.hid (HB.out.trans (hb.mono HB.out.size))
  clear hb
  have HR := Lib.hid hr
  clear hr
  cases r
  · go_wp2
    go_ret
    exact ⟨rfl, HB.out⟩
  have HFs : Hid (FewW s) := Lib.hid (HR.out.1 (by trivial))
  clear HR
  go_wp2_with fail
  refine (rise15_calls _ s _ Hs.out).mono ?_
  rintro e u4 ⟨r, rfl, hr, hb⟩
  replace HI := Lib.hid (HI.out.below hb)
  replace Hs := Lib.hid (Hs.out.below hb)
  replace HB := Lib.hid (HB.out.trans (hb.mono HB.out.size))
  clear hb
  have HR := Lib.hid hr
  clear hr
  cases r
  · go_wp2
    go_ret
    exact ⟨rfl, HB.out⟩
  have HRs : Hid (RiseW s) := Lib.hid (HR.out.1 (by trivial))
  clear HR
  by_cases h100 : key.size ≤ 100
  · have t1 : decide ((100 : Int) < (key.size : Int)) = false := by apply decide_eq_false; omega
    clear h100
    go_wp2_with fail
    refine (theirs16_calls _ cs _ HI.out (HF.out.le60) (by have := HF.out.2.1; omega)).mono ?_
    rintro e u5 ⟨vm, rfl, hm, hb⟩
    replace HI := Lib.hid (HI.out.below hb)
    replace Hs := Lib.hid (Hs.out.below hb)
    replace HB := Lib.hid (HB.out.trans (hb.mono HB.out.size))
    have HM := Lib.hid (hm)
    clear hb
    clear hm
    obtain ⟨am, qm, rfl⟩ := HM.out.slice
    have HFC : Hid (FewC cs) := Lib.hid (HF.out.fewC HST.out)
    go_wp2_with fail
    refine (theirs15_calls _ s _ Hs.out HFs.out.2).mono ?_
    rintro e u6 ⟨vt, rfl, ht, hb⟩
    replace HI := Lib.hid (HI.out.below hb)
    replace Hs := Lib.hid (Hs.out.below hb)
    replace HM := Lib.hid (HM.out.below hb)
    replace HB := Lib.hid (HB.out.trans (hb.mono HB.out.size))
    have T9 := Lib.hid (ht.rows (by have := HFs.out.2; omega))
    clear hb
    clear ht
    obtain ⟨at9, qt9, rfl⟩ := T9.out.slice
    by_cases h6 : 60000 ≤ lastN cs
    · skip
      go_wp2_with fail
      refine (add_end _ _ cs _ HM.out (by have := HF.out.2.1; omega) h6).mono ?_
      rintro e u7 ⟨vn, rfl, hn, hb⟩
      replace HI := Lib.hid (HI.out.below hb)
      replace Hs := Lib.hid (Hs.out.below hb)
      replace HM := Lib.hid (HM.out.below hb)
      replace T9 := Lib.hid (T9.out.below hb)
      replace HB := Lib.hid (HB.out.trans (hb.mono HB.out.size))
      have HN := Lib.hid (hn)
      clear hb
      clear hn
      obtain ⟨an, qn, rfl⟩ := HN.out.slice
      go_wp2
      go_ret
      exact ⟨rfl, HB.out⟩
    have h6' : lastN cs < 60000 := by omega
    clear h6
    go_wp2_with fail
    refine (add_more _ _ cs s _ HM.out T9.out (by have := HF.out.2.1; omega) (by have := HFs.out.2; omega) h6').mono ?_
    rintro e u7 ⟨vn, rfl, hn, hb⟩
    replace HI := Lib.hid (HI.out.below hb)
    replace Hs := Lib.hid (Hs.out.below hb)
    replace HM := Lib.hid (HM.out.below hb)
    replace T9 := Lib.hid (T9.out.below hb)
    replace HB := Lib.hid (HB.out.trans (hb.mono HB.out.size))
    have HN := Lib.hid (hn)
    clear hb
    clear hn
    replace HN : Hid (Coms _ vn (addC cs s)) := HN
    obtain ⟨an, qn, rfl⟩ := HN.out.slice
    have HFN : Hid (FewC (addC cs s)) := Lib.hid (few_addC HFC.out HF.out.2.1 HFs.out.2 HRs.out h6')
    have HLE : Hid (lastN cs < 60000) := Lib.hid h6'
    have HRC : Hid (RiseC cs) := Lib.hid HF.out.2.2
    obtain ⟨w0, hw0⟩ : ∃ W, W = u7 := ⟨_, rfl⟩
    rw [← hw0] at HB HM HN Hs ⊢
    clear hw0
    have BHM := HM
    have BHN := HN
    have BHs := Hs
    have BHB := HB
    have hles := Hs.out.le
    have hcps := Hs.out.cap_le
    go_wp2
    go_loopw [11, 51] (fun _ i wr => ∃ k : Nat, k ≤ s.length ∧ i = .int .i64 k ∧ (∀ (j : Nat) y, j < k → s[j]? = some y → kb y.key ≠ kb key) ∧ Below w0.heap.size w0 wr) (fun _ i _ => s.length - (intOf i).toNat)
    case atStart => exact ⟨0, Nat.zero_le _, rfl, fun j y hj => absurd hj (by omega), Below.refl _ _⟩
    case round =>
      obtain ⟨k, hk, rfl, hx, hbw⟩ := hrel
      have HX := Lib.hid hx
      clear hx
      replace HM := Lib.hid (BHM.out.below hbw)
      replace HN := Lib.hid (BHN.out.below hbw)
      replace Hs := Lib.hid (BHs.out.below hbw)
      replace HB := Lib.hid (BHB.out.trans (hbw.mono BHB.out.size))
      have HBW := Lib.hid hbw
      clear hbw
      by_cases hlt : k < s.length
      · obtain ⟨x, hx⟩ : ∃ x, s[k]? = some x := ⟨_, List.getElem?_eq_getElem hlt⟩
        have HXX := Lib.hid hx
        obtain ⟨b, off, e0, hz, hc0, hc1, hc2⟩ := Hs.out.w3 hx
        subst e0
        clear hz hx
        by_cases he : kb x.key = kb key
        · have e1 : (x.key.toList == key.toList) = true := by rw [beq_iff_eq]; exact he
          go_wp2
          go_ret
          exact ⟨rfl, HB.out.alloc HB.out.size _⟩
        · have e1 : (x.key.toList == key.toList) = false := by rw [beq_eq_false_iff_ne]; exact he
          have HE := Lib.hid he
          clear he
          go_wp2
          go_roundw
          case rel =>
            refine ⟨k + 1, hlt, by go_num, fun j y hj hy => ?_, HBW.out.alloc HBW.out.size _⟩
            by_cases e : j = k
            · subst e
              have := HXX.out.symm.trans hy
              simp only [Option.some.injEq] at this
              subst this
              exact HE.out
            · exact HX.out j y (by omega) hy
          case measure => simp [intOf]; omega
      · obtain rfl : k = s.length := by omega
        clear hlt hk
        have HNO : Hid (∀ x ∈ s, kb x.key ≠ kb key) := Lib.hid fun x hx => by
          obtain ⟨i, hi⟩ := List.mem_iff_getElem?.1 hx
          exact HX.out i x (List.getElem?_eq_some_iff.1 hi).1 hi
        have hlt6 := HLE.out
        go_wp2_with fail
        refine (last_calls _ (cs) _ HM.out).mono ?_
        rintro e u8 ⟨rfl, rfl⟩
        go_wp2_with fail
        refine (read_calls _ cs key (lastN cs) _ HM.out HFC.out.rises).mono ?_
        rintro e u9 ⟨rfl, hb⟩
        replace HM := Lib.hid (HM.out.below hb)
        replace HN := Lib.hid (HN.out.below hb)
        replace HB := Lib.hid (HB.out.trans (hb.mono HB.out.size))
        clear hb
        go_wp2_with fail
        refine (last_calls _ (addC cs s) _ HN.out).mono ?_
        rintro e u10 ⟨rfl, rfl⟩
        rw [last_addC]
        go_wp2_with fail
        refine (read_calls _ (addC cs s) key (lastN cs + 1) _ HN.out HFN.out.rises).mono ?_
        rintro e u11 ⟨rfl, hb⟩
        replace HM := Lib.hid (HM.out.below hb)
        replace HN := Lib.hid (HN.out.below hb)
        replace HB := Lib.hid (HB.out.trans (hb.mono HB.out.size))
        clear hb
        rw [read_others HRC.out HNO.out]
        generalize seenT (readO cs key (lastN cs)) = tt at *
        generalize seenB (readO cs key (lastN cs)) = bb at *
        have q1 : ((tt.toList == tt.toList) : Bool) = true := beq_self_eq_true _
        have q2 : ((bb == bb) : Bool) = true := beq_self_eq_true _
        go_wp2
        go_ret
        exact ⟨rfl, HB.out⟩
  · have t1 : decide ((100 : Int) < (key.size : Int)) = true := by apply decide_eq_true; omega
    go_wp2
    go_ret
    exact ⟨rfl, HB.out⟩
end Go.Proofs.Ytdeecdebhigafaa
