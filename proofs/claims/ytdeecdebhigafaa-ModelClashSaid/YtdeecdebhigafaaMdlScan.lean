/- MODEL: Scan, the document's and the program's. -/
import Derived.Test.YtdeecdebhigafaaMdlLast
namespace Go.Proofs.Ytdeecdebhigafaa
open Go Go.RowKit

def scanW (at' : Nat) (acc : List Pr) (c : Ct) : List Pr := if c.stamp ≤ at' then overR acc c.set else acc
def scanR (cs : List Ct) (at' : Nat) : List Pr := cs.foldl (scanW at') []
/-- the commits of a store that is asked -/
def FewC (cs : List Ct) : Prop := (∀ (i : Nat) c, cs[i]? = some c → c.set.length ≤ 60 ∧ RiseW c.set ∧ c.stamp < 18446744073709551616) ∧ cs.length ≤ 31
set_option maxHeartbeats 800000 in
theorem rscan_calls (v : Value) (cs : List Ct) (at' : Nat) (w : World) (hI : Coms w v cs) (hF : FewC cs) :
    Calls Try.prog 27 #[v, .int .u64 at'] w fun e w' => ∃ v', e = .returned v' ∧ OwnR EP 79 w' w.heap.size v' (scanR cs at') ∧ (scanR cs at').length ≤ 60 * cs.length ∧ Below w.heap.size w w' := by
  obtain ⟨a, cap, rfl⟩ := hI.slice
  have HI := Lib.hid hI
  have HF := Lib.hid hF
  have hle := hF.2
  have hcap := hI.cap_le
  clear hI hF
  go_enter Try.func27, Try.ntmps27
  go_wp2
  go_loopw [5, 6] (fun ov i wr => ∃ k : Nat, k ≤ cs.length ∧ i = .int .i64 k ∧ OwnR EP 79 wr w.heap.size ov ((cs.take k).foldl (scanW at') []) ∧ ((cs.take k).foldl (scanW at') []).length ≤ 60 * k ∧ Below w.heap.size w wr) (fun _ i _ => cs.length - (intOf i).toNat)
  case atStart => exact ⟨0, Nat.zero_le _, rfl, OwnR.nil_ _ _ _ _, Nat.le_refl _, Below.refl _ _⟩
  case round =>
    obtain ⟨k, hk, rfl, hown, hlen, hbw⟩ := hrel
    have HB := Lib.hid hbw
    by_cases hlt : k < cs.length
    · obtain ⟨c, hc⟩ : ∃ c, cs[k]? = some c := ⟨_, List.getElem?_eq_getElem hlt⟩
      have HT : Hid ((cs.take (k + 1)).foldl (scanW at') [] = scanW at' ((cs.take k).foldl (scanW at') []) c) := Lib.hid (by rw [List.take_add_one, hc, List.foldl_append]; rfl)
      obtain ⟨b, off, sa, sn, sc, rfl, hz, hc0, hc1, hr⟩ := (HI.out.below hbw).c2 hc
      have HR := Lib.hid hr
      have HC60 := Lib.hid (HF.out.1 k c hc)
      generalize (cs.take k).foldl (scanW at') [] = L at *
      obtain ⟨oa, oc, rfl⟩ := hown.slice
      have HOWN := Lib.hid hown
      have HLEN := Lib.hid hlen
      clear hz hc hown hlen hbw hr
      by_cases hat : c.stamp ≤ at'
      · have HT' : Hid ((cs.take (k + 1)).foldl (scanW at') [] = overR L c.set) := Lib.hid (by rw [HT.out]; unfold scanW; rw [if_pos hat])
        clear HT
        go_wp2_with fail
        refine (rover_calls _ _ L c.set _ (HOWN.out.rows (by have := HLEN.out; omega)) HR.out (by have := HLEN.out; have := HC60.out.1; omega)).mono ?_
        rintro e w6 ⟨v6, rfl, ho6, hl6, hb6⟩
        have HO6 := Lib.hid (ho6.mono HB.out.size)
        have HL6 : Hid ((overR L c.set).length ≤ 60 * (k + 1)) := Lib.hid (by have := HLEN.out; have := HC60.out.1; omega)
        have HB6 := Lib.hid (HB.out.trans (hb6.mono HB.out.size))
        clear ho6 hl6 hb6
        obtain ⟨A6, c6, e6⟩ := HO6.out.slice
        subst e6
        go_wp2
        go_roundw
        case rel => exact ⟨k + 1, hlt, by go_num, by rw [HT'.out]; exact HO6.out, by rw [HT'.out]; exact HL6.out, HB6.out⟩
        case measure => simp [intOf]; omega
      · have HT' : Hid ((cs.take (k + 1)).foldl (scanW at') [] = L) := Lib.hid (by rw [HT.out]; unfold scanW; rw [if_neg hat])
        clear HT
        go_wp2
        go_roundw
        case rel => exact ⟨k + 1, hlt, by go_num, by rw [HT'.out]; exact HOWN.out, by rw [HT'.out]; have := HLEN.out; omega, HB.out⟩
        case measure => simp [intOf]; omega
    · obtain rfl : k = cs.length := by omega
      rw [List.take_length] at hown hlen
      have HOWN := Lib.hid hown
      have HLEN := Lib.hid hlen
      clear hlt hk hown hlen hbw
      go_wp2
      go_ret
      exact ⟨_, rfl, HOWN.out, HLEN.out, HB.out⟩
def scanWM (at' : Nat) (acc : List Pr) (c : Ct) : List Pr := if c.stamp ≤ at' then overM acc c.set else acc
def scanM (cs : List Ct) (at' : Nat) : List Pr := cs.foldl (scanWM at') []
set_option maxHeartbeats 800000 in
theorem scan_calls (v : Value) (cs : List Ct) (at' : Nat) (w : World) (hI : Coms w v cs) (hF : FewC cs) :
    Calls Try.prog 26 #[v, .int .u64 at'] w fun e w' => ∃ v', e = .returned v' ∧ OwnR EP 60 w' w.heap.size v' (scanM cs at') ∧ (scanM cs at').length ≤ 60 * cs.length ∧ Below w.heap.size w w' := by
  obtain ⟨a, cap, rfl⟩ := hI.slice
  have HI := Lib.hid hI
  have HF := Lib.hid hF
  have hle := hF.2
  have hcap := hI.cap_le
  clear hI hF
  go_enter Try.func26, Try.ntmps26
  go_wp2
  go_loopw [5, 7, 10] (fun ov _ i wr => ∃ k : Nat, k ≤ cs.length ∧ i = .int .i64 k ∧ OwnR EP 60 wr w.heap.size ov ((cs.take k).foldl (scanWM at') []) ∧ ((cs.take k).foldl (scanWM at') []).length ≤ 60 * k ∧ Below w.heap.size w wr) (fun _ _ i _ => cs.length - (intOf i).toNat)
  case atStart => exact ⟨0, Nat.zero_le _, rfl, OwnR.nil_ _ _ _ _, Nat.le_refl _, Below.refl _ _⟩
  case round =>
    obtain ⟨k, hk, rfl, hown, hlen, hbw⟩ := hrel
    have HB := Lib.hid hbw
    by_cases hlt : k < cs.length
    · obtain ⟨c, hc⟩ : ∃ c, cs[k]? = some c := ⟨_, List.getElem?_eq_getElem hlt⟩
      have HT : Hid ((cs.take (k + 1)).foldl (scanWM at') [] = scanWM at' ((cs.take k).foldl (scanWM at') []) c) := Lib.hid (by rw [List.take_add_one, hc, List.foldl_append]; rfl)
      obtain ⟨b, off, sa, sn, sc, rfl, hz, hc0, hc1, hr⟩ := (HI.out.below hbw).c2 hc
      have HR := Lib.hid hr
      have HC60 := Lib.hid (HF.out.1 k c hc)
      generalize (cs.take k).foldl (scanWM at') [] = L at *
      obtain ⟨oa, oc, rfl⟩ := hown.slice
      have HOWN := Lib.hid hown
      have HLEN := Lib.hid hlen
      clear hz hc hown hlen hbw hr
      by_cases hat : c.stamp ≤ at'
      · have HT' : Hid ((cs.take (k + 1)).foldl (scanWM at') [] = overM L c.set) := Lib.hid (by rw [HT.out]; unfold scanWM; rw [if_pos hat])
        clear HT
        go_wp2_with fail
        refine (over_calls _ _ L c.set (L.length + c.set.length) _ ((HOWN.out.alloc _).rows (by have := HLEN.out; omega)) (HR.out.alloc _) (Nat.le_refl _) (by have := HLEN.out; have := HC60.out.1; omega)).mono ?_
        rintro e w6 ⟨v6, rfl, ho6, hl6, hb6⟩
        have HO6 := Lib.hid (ho6.mono (HB.out.alloc HB.out.size (.cells #[.int .u64 c.stamp, .slice sa sn sc] 72)).size)
        have HL6 : Hid ((overM L c.set).length ≤ 60 * (k + 1)) := Lib.hid (by have := HLEN.out; have := HC60.out.1; omega)
        have HB6 := Lib.hid ((HB.out.alloc HB.out.size (.cells #[.int .u64 c.stamp, .slice sa sn sc] 72)).trans (hb6.mono (HB.out.alloc HB.out.size (.cells #[.int .u64 c.stamp, .slice sa sn sc] 72)).size))
        clear ho6 hl6 hb6
        obtain ⟨A6, c6, e6⟩ := HO6.out.slice
        subst e6
        go_wp2
        go_roundw
        case rel => exact ⟨k + 1, hlt, by go_num, by rw [HT'.out]; exact HO6.out, by rw [HT'.out]; exact HL6.out, HB6.out⟩
        case measure => simp [intOf]; omega
      · have HT' : Hid ((cs.take (k + 1)).foldl (scanWM at') [] = L) := Lib.hid (by rw [HT.out]; unfold scanWM; rw [if_neg hat])
        clear HT
        go_wp2
        go_roundw
        case rel => exact ⟨k + 1, hlt, by go_num, by rw [HT'.out]; exact HOWN.out.alloc _, by rw [HT'.out]; have := HLEN.out; omega, HB.out.alloc HB.out.size _⟩
        case measure => simp [intOf]; omega
    · obtain rfl : k = cs.length := by omega
      rw [List.take_length] at hown hlen
      have HOWN := Lib.hid hown
      have HLEN := Lib.hid hlen
      clear hlt hk hown hlen hbw
      go_wp2
      go_ret
      exact ⟨_, rfl, HOWN.out, HLEN.out, HB.out⟩
theorem scan_fold (at' : Nat) : ∀ (cs : List Ct) (acc : List Pr), RiseP acc → (∀ c ∈ cs, RisePW c.set) → cs.foldl (scanWM at') acc = cs.foldl (scanW at') acc ∧ RiseP (cs.foldl (scanW at') acc)
  | [], _, h, _ => ⟨rfl, h⟩
  | c :: cs, acc, h, hs => by
    have e : scanWM at' acc c = scanW at' acc c := by
      unfold scanWM scanW
      split
      · exact over_eq h (hs c (by simp))
      · rfl
    have h2 : RiseP (scanW at' acc c) := by
      unfold scanW
      split
      · exact overR_rise h
      · exact h
    rw [List.foldl_cons, List.foldl_cons, e]
    exact scan_fold at' cs _ h2 fun d hd => hs d (by simp [hd])
theorem scan_eq {cs : List Ct} (hF : FewC cs) (at' : Nat) : scanM cs at' = scanR cs at' :=
  (scan_fold at' cs [] List.Pairwise.nil fun c hc => by
    obtain ⟨i, hi⟩ := List.mem_iff_getElem?.1 hc
    exact rise_pw (hF.1 i c hi).2.1).1
end Go.Proofs.Ytdeecdebhigafaa
