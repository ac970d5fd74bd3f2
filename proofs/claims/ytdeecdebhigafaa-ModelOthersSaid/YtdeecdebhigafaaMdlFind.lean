/- MODEL: a key's write in a set, by halves. -/
import Derived.Test.YtdeecdebhigafaaMdlGet
namespace Go.Proofs.Ytdeecdebhigafaa
open Go Go.RowKit

def CutAt (l : List Wr) (key : ByteArray) (i : Nat) : Prop := (∀ (j : Nat) x, j < i → l[j]? = some x → kb x.key < kb key) ∧ ∀ (j : Nat) x, i ≤ j → l[j]? = some x → ¬ kb x.key < kb key
def hitB (l : List Wr) (key : ByteArray) (i : Nat) : Bool := match l[i]? with | some x => kb x.key == kb key | none => false
theorem rise_lt {l : List Wr} (h : RiseW l) : ∀ (d i : Nat) (x y : Wr), l[i]? = some x → l[i + 1 + d]? = some y → kb x.key < kb y.key
  | 0, i, x, y, hx, hy => h i x y hx hy
  | d + 1, i, x, y, hx, hy => by
    obtain ⟨z, hz⟩ : ∃ z, l[i + 1 + d]? = some z := ⟨_, List.getElem?_eq_getElem (by have := (List.getElem?_eq_some_iff.1 hy).1; omega)⟩
    exact ltL_trans (rise_lt h d i x z hx hz) (h (i + 1 + d) z y hz hy)
theorem rise_lt' {l : List Wr} (h : RiseW l) {i j : Nat} {x y : Wr} (hij : i < j) (hx : l[i]? = some x) (hy : l[j]? = some y) : kb x.key < kb y.key := by
  obtain ⟨d, rfl⟩ : ∃ d, j = i + 1 + d := ⟨j - i - 1, by omega⟩
  exact rise_lt h d i x y hx hy
set_option maxHeartbeats 800000 in
set_option maxRecDepth 100000 in
theorem bsearch_calls (v : Value) (l : List Wr) (key : ByteArray) (w : World) (hI : Rows EW w v l) (hr : RiseW l) :
    Calls Try.prog 51 #[v, .string key, .func (.func 52) #[] #[]] w fun e w' => ∃ i : Nat, i ≤ l.length ∧ CutAt l key i ∧ e = .returned (.tuple #[.int .i64 i, .bool (hitB l key i)]) ∧ Below w.heap.size w w' := by
  obtain ⟨a, cap, rfl⟩ := hI.slice
  have HI := Lib.hid hI
  have HR := Lib.hid hr
  have hle := hI.le
  have hcap := hI.cap_le
  clear hI hr
  go_enter Try.func51, Try.ntmps51
  go_wp2
  go_loopw [9, 10, 11] (fun i j _ wr => ∃ p q : Nat, p ≤ q ∧ q ≤ l.length ∧ i = .int .i64 p ∧ j = .int .i64 q ∧ (∀ (j : Nat) x, j < p → l[j]? = some x → kb x.key < kb key) ∧ (∀ (j : Nat) x, q ≤ j → l[j]? = some x → ¬ kb x.key < kb key) ∧ Below w.heap.size w wr) (fun i j _ _ => (intOf j - intOf i).toNat)
  case atStart => exact ⟨0, l.length, Nat.zero_le _, Nat.le_refl _, rfl, rfl, fun j y hj => absurd hj (by omega), fun j y hj hy => absurd (List.getElem?_eq_some_iff.1 hy).1 (by omega), Below.refl _ _⟩
  case round =>
    obtain ⟨p, q, hpq, hq, rfl, rfl, h1, h2, hbw⟩ := hrel
    have H1 := Lib.hid h1
    have H2 := Lib.hid h2
    have HBW := Lib.hid hbw
    have HIR := Lib.hid (HI.out.below hbw)
    clear h1 h2 hbw
    by_cases hlt : p < q
    · go_upto_region 5 with fail
      obtain ⟨h, hh, h0, h1⟩ : ∃ h : Nat, ((p : Int) + (q : Int)) / 2 = (h : Int) ∧ p ≤ h ∧ h < q := ⟨(p + q) / 2, by omega, by omega, by omega⟩
      rw [hh]
      clear hh
      obtain ⟨x, hx⟩ : ∃ x, l[h]? = some x := ⟨_, List.getElem?_eq_getElem (by omega)⟩
      have HX := Lib.hid hx
      obtain ⟨b, off, rfl, hz, hc0, hc1, hc2⟩ := HIR.out.w3 hx
      clear hz hx
      have hhl : h < l.length := by omega
      by_cases hc : kb x.key < kb key
      · have e1 : decide (Lib.compareBytes (kb x.key) (kb key) < 0) = true := decide_eq_true ((cmp_lt _ _).2 hc)
        have HC := Lib.hid hc
        clear hc
        go_wp2_with fail
        refine (compare_calls _ _ _ _ _).mono ?_
        rintro e w' ⟨rfl, hb⟩
        have HB := Lib.hid (HBW.out.trans (hb.mono HBW.out.size))
        clear hb
        go_wp2
        go_roundw
        case rel =>
          refine ⟨h + 1, q, by omega, hq, by go_num, rfl, fun j y hj hy => ?_, H2.out, HB.out⟩
          rcases Nat.lt_or_ge j h with e | e
          · exact ltL_trans (rise_lt' HR.out e hy HX.out) HC.out
          · obtain rfl : j = h := by omega
            have := HX.out.symm.trans hy
            simp only [Option.some.injEq] at this
            subst this
            exact HC.out
        case measure => simp [intOf]; omega
      · have e1 : decide (Lib.compareBytes (kb x.key) (kb key) < 0) = false := decide_eq_false fun e => hc ((cmp_lt _ _).1 e)
        have HC := Lib.hid hc
        clear hc
        go_wp2_with fail
        refine (compare_calls _ _ _ _ _).mono ?_
        rintro e w' ⟨rfl, hb⟩
        have HB := Lib.hid (HBW.out.trans (hb.mono HBW.out.size))
        clear hb
        go_wp2
        go_roundw
        case rel =>
          refine ⟨p, h, h0, by omega, rfl, rfl, H1.out, fun j y hj hy hlt' => ?_, HB.out⟩
          rcases Nat.lt_or_ge h j with e | e
          · exact HC.out (ltL_trans (rise_lt' HR.out e HX.out hy) hlt')
          · obtain rfl : j = h := by omega
            have := HX.out.symm.trans hy
            simp only [Option.some.injEq] at this
            subst this
            exact HC.out hlt'
        case measure => simp [intOf]; omega
    · obtain rfl : p = q := by omega
      clear hpq hlt
      by_cases hin : p < l.length
      · obtain ⟨x, hx⟩ : ∃ x, l[p]? = some x := ⟨_, List.getElem?_eq_getElem hin⟩
        have HX : Hid ((Lib.compareBytes (kb x.key) (kb key) == 0) = hitB l key p) := Lib.hid (by
          unfold hitB
          rw [hx]
          show _ = (kb x.key == kb key)
          rw [Bool.eq_iff_iff, beq_iff_eq, beq_iff_eq]
          exact cmp_eq0 _ _)
        obtain ⟨b, off, rfl, hz, hc0, hc1, hc2⟩ := HIR.out.w3 hx
        clear hz hx
        go_wp2_with fail
        refine (compare_calls _ _ _ _ _).mono ?_
        rintro e w' ⟨rfl, hb⟩
        have HB := Lib.hid (HBW.out.trans (hb.mono HBW.out.size))
        clear hb
        generalize Lib.compareBytes (kb x.key) (kb key) = c at *
        cases hcc : (c == 0)
        · rw [hcc] at HX
          go_wp2
          go_ret2
          exact ⟨p, hq, ⟨H1.out, H2.out⟩, by rw [← HX.out]; rfl, HB.out⟩
        · rw [hcc] at HX
          go_wp2
          go_ret2
          exact ⟨p, hq, ⟨H1.out, H2.out⟩, by rw [← HX.out]; rfl, HB.out⟩
      · have HX : Hid (false = hitB l key p) := Lib.hid (by unfold hitB; rw [List.getElem?_eq_none (by omega)])
        go_wp2
        go_ret2
        exact ⟨p, hq, ⟨H1.out, H2.out⟩, by rw [← HX.out]; rfl, HBW.out⟩
theorem sat_calls (v : Value) (l : List Wr) (key : ByteArray) (w : World) (hI : Rows EW w v l) (hr : RiseW l) :
    Calls Try.prog 49 #[v, .string key] w fun e w' => ∃ i : Nat, i ≤ l.length ∧ CutAt l key i ∧ e = .returned (.tuple #[.int .i64 i, .bool (hitB l key i)]) ∧ Below w.heap.size w w' := by
  have HI := Lib.hid hI
  have HR := Lib.hid hr
  clear hI hr
  go_enter Try.func49, Try.ntmps49
  go_wp2_with fail
  refine (bsearch_calls _ _ _ _ HI.out HR.out).mono ?_
  rintro e w' ⟨i, hi, hc, rfl, hb⟩
  have H := Lib.hid (And.intro hi (And.intro hc hb))
  clear hi hc hb
  go_wp2
  go_ret2
  exact ⟨i, H.out.1, H.out.2.1, rfl, H.out.2.2⟩
theorem getS_cut {l : List Wr} {key : ByteArray} {i : Nat} (hr : RiseW l) (hc : CutAt l key i) : getS l key = if hitB l key i then l[i]? else none := by
  cases hh : hitB l key i
  · rw [if_neg (by simp)]
    refine getS_miss fun j y hy he => ?_
    rcases Nat.lt_or_ge j i with h | h
    · have := hc.1 j y h hy
      rw [he] at this; exact ltL_irrefl _ this
    · rcases Nat.lt_or_ge i j with h' | h'
      · obtain ⟨z, hz⟩ : ∃ z, l[i]? = some z := ⟨_, List.getElem?_eq_getElem (by have := (List.getElem?_eq_some_iff.1 hy).1; omega)⟩
        have h1 := rise_lt' hr h' hz hy
        rw [he] at h1
        exact hc.2 i z (Nat.le_refl _) hz h1
      · obtain rfl : i = j := by omega
        unfold hitB at hh
        rw [hy] at hh
        simp [he] at hh
  · rw [if_pos rfl]
    unfold hitB at hh
    cases hx : l[i]? with
    | none => rw [hx] at hh; cases hh
    | some x =>
      rw [hx] at hh
      refine getS_hit hx (by simpa using hh) fun j y hj hy he => ?_
      have := hc.1 j y hj hy
      rw [he] at this; exact ltL_irrefl _ this
set_option maxHeartbeats 400000 in
theorem get_calls (v : Value) (l : List Wr) (key : ByteArray) (w : World) (hI : Rows EW w v l) (hr : RiseW l) :
    Calls Try.prog 42 #[v, .string key] w fun e w' => e = .returned (getV (getS l key)) ∧ Below w.heap.size w w' := by
  obtain ⟨a, cap, rfl⟩ := hI.slice
  have HI := Lib.hid hI
  have HR := Lib.hid hr
  have hle := hI.le
  have hcap := hI.cap_le
  clear hI hr
  go_enter Try.func42, Try.ntmps42
  go_wp2_with fail
  refine (sat_calls _ _ _ _ (HI.out.alloc _) HR.out).mono ?_
  rintro e w1 ⟨i, hi, hc, rfl, hb⟩
  have HI1 := Lib.hid ((HI.out.alloc (.cells #[.string { data := #[] }, .string { data := #[] }, .bool false] 70)).below hb)
  have HG := Lib.hid ((hb.block w.heap.size (by simp)).trans (heap_alloc_new w (.cells #[.string { data := #[] }, .string { data := #[] }, .bool false] 70)))
  have HBW : Hid (Below w.heap.size w w1) := Lib.hid (((Below.refl _ w).alloc (Nat.le_refl _) _).trans (hb.mono (by simp)))
  have HC := Lib.hid (getS_cut HR.out hc)
  clear hc hb
  cases hh : hitB l key i
  · rw [hh, if_neg (by simp)] at HC
    go_wp2_with (refine wpList_store_row rfl 70 (.tmp 4) (.tmp 16) rfl w.heap.size #[.string { data := #[] }, .string { data := #[] }, .bool false] rfl rfl 70 #[.string { data := #[] }, .string { data := #[] }, .bool false] HG.out (by kernel_rfl) rfl (oneW _ _ _) ?_)
    refine bodyPost_ret (results_row_tmp rfl _ _ w.heap.size 70 #[.string { data := #[] }, .string { data := #[] }, .bool false] (0, 0) _ rfl (setRow_heap _ _ _ _ _ _ HG.out) Try.underlying70 rfl (by kernel_rfl)) rfl ⟨by rw [HC.out]; rfl, below_setRow HBW.out (Nat.le_refl _) _⟩
  · have hlt : i < l.length := by
      unfold hitB at hh
      rcases Nat.lt_or_ge i l.length with h | h
      · exact h
      · rw [List.getElem?_eq_none h] at hh; cases hh
    obtain ⟨x, hx⟩ : ∃ x, l[i]? = some x := ⟨_, List.getElem?_eq_getElem hlt⟩
    rw [hh, if_pos rfl, hx] at HC
    obtain ⟨b, off, rfl, hz, hc0, hc1, hc2⟩ := HI1.out.w3 hx
    clear hz hx hi
    go_wp2_with (refine wpList_store_row rfl 70 (.tmp 4) (.tmp 20) rfl w.heap.size #[.string x.key, .string x.text, .bool x.gone] rfl rfl 70 #[.string { data := #[] }, .string { data := #[] }, .bool false] HG.out (by kernel_rfl) rfl (oneW _ _ _) ?_)
    refine bodyPost_ret (results_row_tmp rfl _ _ w.heap.size 70 #[.string x.key, .string x.text, .bool x.gone] (0, 0) _ rfl (setRow_heap _ _ _ _ _ _ HG.out) Try.underlying70 rfl (by kernel_rfl)) rfl ⟨by rw [HC.out]; rfl, below_setRow HBW.out (Nat.le_refl _) _⟩
end Go.Proofs.Ytdeecdebhigafaa
