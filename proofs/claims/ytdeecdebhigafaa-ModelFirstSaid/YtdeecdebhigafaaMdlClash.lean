/- MODEL: Clash, the document's and the program's. -/
import Derived.Test.YtdeecdebhigafaaMdlScan
namespace Go.Proofs.Ytdeecdebhigafaa
open Go Go.RowKit

def clash1 (s : List Wr) (at' : Nat) (c : Ct) : Bool := decide (at' < c.stamp) && meetB c.set s
def clashB (cs : List Ct) (s : List Wr) (at' : Nat) : Bool := cs.any (clash1 s at')
theorem cclosure_calls (c : Ct) (sa : Option Addr) (sn sc : Nat) (B D : Nat) (u : Value) (s : List Wr) (at' : Nat) (w : World) (hB : w.cell? ⟨B, 0, none⟩ = some (.int .u64 at')) (hD : w.cell? ⟨D, 0, none⟩ = some u) (hI : Rows EW w (.slice sa sn sc) c.set) (hJ : Rows EW w u s) (hr : RiseW s) :
    Calls Try.prog 38 #[.agg #[.int .u64 c.stamp, .slice sa sn sc], .pointer (some ⟨B, 0, none⟩), .pointer (some ⟨D, 0, none⟩)] w fun e w' => e = .returned (.bool (clash1 s at' c)) ∧ Below w.heap.size w w' := by
  obtain ⟨ua, uc, rfl⟩ := hJ.slice
  have hb := (Below.refl w.heap.size w).alloc (Nat.le_refl _) (.cells #[.int .u64 c.stamp, .slice sa sn sc] 72)
  have hB' := (hb.cell (World.block_lt_of_cell? w _ hB)).trans hB
  have hD' := (hb.cell (World.block_lt_of_cell? w _ hD)).trans hD
  have HI := Lib.hid (hI.below hb)
  have HJ := Lib.hid (hJ.below hb)
  have HR := Lib.hid hr
  have HB := Lib.hid hb
  clear hI hJ hr hb hB hD
  by_cases h1 : at' < c.stamp
  · have HX : Hid (clash1 s at' c = meetB c.set s) := Lib.hid (by unfold clash1; rw [decide_eq_true h1, Bool.true_and])
    go_enter Try.func38, Try.ntmps38
    go_wp2_with fail
    refine (meet_calls _ _ _ _ _ HI.out HJ.out HR.out).mono ?_
    rintro e w' ⟨rfl, hb6⟩
    have HB6 := Lib.hid (HB.out.trans (hb6.mono HB.out.size))
    clear hb6
    go_wp2
    go_ret
    exact ⟨ret_bool HX.out.symm, HB6.out⟩
  · have HX : Hid (clash1 s at' c = false) := Lib.hid (by unfold clash1; rw [decide_eq_false h1, Bool.false_and])
    go_enter Try.func38, Try.ntmps38
    go_wp2
    go_ret
    exact ⟨ret_bool HX.out.symm, HB.out⟩
set_option maxHeartbeats 400000 in
theorem cIndex_calls (B D : Nat) (v u : Value) (cs : List Ct) (s : List Wr) (at' : Nat) (w : World) (hI : Coms w v cs) (hB : w.cell? ⟨B, 0, none⟩ = some (.int .u64 at')) (hD : w.cell? ⟨D, 0, none⟩ = some u) (hJ : Rows EW w u s) (hr : RiseW s) :
    Calls Try.prog 46 #[v, .func (.func 38) #[] #[.pointer (some ⟨B, 0, none⟩), .pointer (some ⟨D, 0, none⟩)]] w fun e w' => ∃ r : Int, e = .returned (.int .i64 r) ∧ decide (0 ≤ r) = clashB cs s at' ∧ Below w.heap.size w w' := by
  obtain ⟨ad, cap, rfl⟩ := hI.slice
  have HI := Lib.hid hI
  have HJ := Lib.hid hJ
  have HR := Lib.hid hr
  have HBC := Lib.hid hB
  have HDC := Lib.hid hD
  have hle := hI.le
  have hcap := hI.cap_le
  clear hI hJ hr hB hD
  go_enter Try.func46, Try.ntmps46
  go_wp2
  go_loopw [5, 8] (fun _ i wr => ∃ k : Nat, k ≤ cs.length ∧ i = .int .i64 k ∧ (∀ (j : Nat) c, j < k → cs[j]? = some c → clash1 s at' c = false) ∧ Below w.heap.size w wr) (fun _ i _ => cs.length - (intOf i).toNat)
  case atStart => exact ⟨0, Nat.zero_le _, rfl, fun j y hj => absurd hj (by omega), Below.refl _ _⟩
  case round =>
    obtain ⟨k, hk, rfl, hno, hbw⟩ := hrel
    have HNO := Lib.hid hno
    have HBW := Lib.hid hbw
    have HJR := Lib.hid (HJ.out.below hbw)
    have HCR : Hid (wr.cell? ⟨B, 0, none⟩ = some (.int .u64 at')) := Lib.hid ((hbw.cell (World.block_lt_of_cell? w _ HBC.out)).trans HBC.out)
    have HDR : Hid (wr.cell? ⟨D, 0, none⟩ = some u) := Lib.hid ((hbw.cell (World.block_lt_of_cell? w _ HDC.out)).trans HDC.out)
    by_cases hlt : k < cs.length
    · obtain ⟨c, hc⟩ : ∃ c, cs[k]? = some c := ⟨_, List.getElem?_eq_getElem hlt⟩
      have HX := Lib.hid hc
      obtain ⟨bb, off, sa, sn, sc, rfl, hz, hc0, hc1, hr⟩ := (HI.out.below hbw).c2 hc
      have HRR := Lib.hid hr
      clear hz hc hno hbw hr
      go_wp2_with fail
      refine (cclosure_calls c sa sn sc B D u s at' _ HCR.out HDR.out HRR.out HJR.out HR.out).mono ?_
      rintro e w' ⟨rfl, hb⟩
      have HB := Lib.hid (HBW.out.trans (hb.mono HBW.out.size))
      clear hb
      cases hs : clash1 s at' c
      · have HS := Lib.hid hs
        clear hs
        go_wp2
        go_roundw
        case rel =>
          refine ⟨k + 1, hlt, by go_num, fun j y hj hy => ?_, HB.out⟩
          by_cases e : j = k
          · subst e
            have := HX.out.symm.trans hy
            simp only [Option.some.injEq] at this
            subst this
            exact HS.out
          · exact HNO.out j y (by omega) hy
        case measure => simp [intOf]; omega
      · have HM : Hid (clashB cs s at' = true) := Lib.hid (any_hit HX.out hs)
        clear hs
        go_wp2
        go_ret
        exact ⟨_, rfl, by rw [HM.out]; simp, HB.out⟩
    · obtain rfl : k = cs.length := by omega
      have HM : Hid (clashB cs s at' = false) := Lib.hid (any_miss HNO.out)
      clear hlt hk hno hbw
      go_wp2
      go_ret
      exact ⟨_, rfl, by rw [HM.out]; simp, HBW.out⟩
theorem cContains_calls (B D : Nat) (v u : Value) (cs : List Ct) (s : List Wr) (at' : Nat) (w : World) (hI : Coms w v cs) (hB : w.cell? ⟨B, 0, none⟩ = some (.int .u64 at')) (hD : w.cell? ⟨D, 0, none⟩ = some u) (hJ : Rows EW w u s) (hr : RiseW s) :
    Calls Try.prog 37 #[v, .func (.func 38) #[] #[.pointer (some ⟨B, 0, none⟩), .pointer (some ⟨D, 0, none⟩)]] w fun e w' => e = .returned (.bool (clashB cs s at')) ∧ Below w.heap.size w w' := by
  have HX : Hid (∀ W, W = w → Calls Try.prog 46 #[v, .func (.func 38) #[] #[.pointer (some ⟨B, 0, none⟩), .pointer (some ⟨D, 0, none⟩)]] W fun e w' => ∃ r : Int, e = .returned (.int .i64 r) ∧ decide (0 ≤ r) = clashB cs s at' ∧ Below W.heap.size W w') := Lib.hid (fun W e => by subst e; exact cIndex_calls B D v u cs s at' _ hI hB hD hJ hr)
  clear hI hB hD hJ hr
  go_enter Try.func37, Try.ntmps37
  go_wp2_with fail
  refine (HX.out _ rfl).mono ?_
  rintro e w' ⟨r, rfl, hr, hb⟩
  have HB := Lib.hid hb
  have HR := Lib.hid hr
  clear hb hr
  go_wp2
  go_ret
  exact ⟨ret_bool HR.out, HB.out⟩
theorem clash_calls (v u : Value) (cs : List Ct) (s : List Wr) (at' : Nat) (w : World) (hI : Coms w v cs) (hJ : Rows EW w u s) (hr : RiseW s) :
    Calls Try.prog 22 #[v, u, .int .u64 at'] w fun e w' => e = .returned (.bool (clashB cs s at')) ∧ Below w.heap.size w w' := by
  obtain ⟨ua, uc, rfl⟩ := hJ.slice
  have h1 : Below w.heap.size w (w.alloc (.cells #[.slice ua s.length uc] 35)) := (Below.refl _ w).alloc (Nat.le_refl _) _
  have h2 : Below w.heap.size w ((w.alloc (.cells #[.slice ua s.length uc] 35)).alloc (.cells #[.int .u64 at'] 24)) := h1.alloc h1.size _
  have HI := Lib.hid (hI.below h2)
  have HJ := Lib.hid (hJ.below h2)
  have HR := Lib.hid hr
  have HB2 := Lib.hid h2
  have HC : Hid (((w.alloc (.cells #[.slice ua s.length uc] 35)).alloc (.cells #[.int .u64 at'] 24)).cell? ⟨w.heap.size, 0, none⟩ = some (.slice ua s.length uc)) := Lib.hid (cell_of_row _ _ _ _ _ _ (heap_alloc2_old w _ _))
  have HD : Hid (((w.alloc (.cells #[.slice ua s.length uc] 35)).alloc (.cells #[.int .u64 at'] 24)).cell? ⟨w.heap.size + 1, 0, none⟩ = some (.int .u64 at')) := Lib.hid (cell_of_row _ _ _ _ _ _ (heap_alloc2_new w _ _))
  clear hI hJ hr h1 h2
  go_enter Try.func22, Try.ntmps22
  go_wp2_with fail
  refine (cContains_calls (w.heap.size + 1) w.heap.size _ _ cs s at' _ HI.out HD.out HC.out HJ.out HR.out).mono ?_
  rintro e w' ⟨rfl, hb⟩
  have HB : Hid (Below w.heap.size w w') := Lib.hid (HB2.out.trans (hb.mono HB2.out.size))
  clear hb
  go_wp2
  go_ret
  exact ⟨rfl, HB.out⟩
end Go.Proofs.Ytdeecdebhigafaa
