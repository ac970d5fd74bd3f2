/- MODEL: do two sets meet? -/
import Derived.Test.YtdeecdebhigafaaMdlFind
namespace Go.Proofs.Ytdeecdebhigafaa
open Go Go.RowKit

def meetB (a b : List Wr) : Bool := a.any fun x => (getS b x.key).isSome
theorem getV_some {o : Option Wr} : ∃ k t g, getV o = .tuple #[.agg #[.string k, .string t, .bool g], .bool o.isSome] := by
  cases o with
  | none => exact ⟨_, _, _, rfl⟩
  | some x => exact ⟨_, _, _, rfl⟩
theorem any_hit {α : Type} {p : α → Bool} {l : List α} {k : Nat} {x : α} (hx : l[k]? = some x) (h : p x = true) : l.any p = true := List.any_eq_true.2 ⟨x, List.mem_of_getElem? hx, h⟩
theorem any_miss {α : Type} {p : α → Bool} {l : List α} (h : ∀ (j : Nat) x, j < l.length → l[j]? = some x → p x = false) : l.any p = false := by
  rw [List.any_eq_false]
  intro x hx
  obtain ⟨j, hj⟩ := List.mem_iff_getElem?.1 hx
  rw [h j x (List.getElem?_eq_some_iff.1 hj).1 hj]; simp
set_option maxHeartbeats 400000 in
theorem rmeet_calls (v u : Value) (a b : List Wr) (w : World) (hI : Rows EW w v a) (hJ : Rows EW w u b) :
    Calls Try.prog 39 #[v, u] w fun e w' => e = .returned (.bool (meetB a b)) ∧ Below w.heap.size w w' := by
  obtain ⟨ad, cap, rfl⟩ := hI.slice
  have HI := Lib.hid hI
  have HJ := Lib.hid hJ
  have hle := hI.le
  have hcap := hI.cap_le
  clear hI hJ
  go_enter Try.func39, Try.ntmps39
  go_wp2
  go_loopw [5, 6, 7] (fun i _ _ wr => ∃ k : Nat, k ≤ a.length ∧ i = .int .i64 k ∧ (∀ (j : Nat) x, j < k → a[j]? = some x → (getS b x.key).isSome = false) ∧ Below w.heap.size w wr) (fun i _ _ _ => a.length - (intOf i).toNat)
  case atStart => exact ⟨0, Nat.zero_le _, rfl, fun j y hj => absurd hj (by omega), Below.refl _ _⟩
  case round =>
    obtain ⟨k, hk, rfl, hno, hbw⟩ := hrel
    have HNO := Lib.hid hno
    have HBW := Lib.hid hbw
    have HIR := Lib.hid (HI.out.below hbw)
    have HJR := Lib.hid (HJ.out.below hbw)
    clear hno hbw
    by_cases hlt : k < a.length
    · obtain ⟨x, hx⟩ : ∃ x, a[k]? = some x := ⟨_, List.getElem?_eq_getElem hlt⟩
      have HX := Lib.hid hx
      obtain ⟨bb, off, rfl, hz, hc0, hc1, hc2⟩ := HIR.out.w3 hx
      clear hz hx
      go_wp2_with fail
      refine (rget_calls _ _ _ _ HJR.out).mono ?_
      rintro e w' ⟨rfl, hb⟩
      have HB := Lib.hid (HBW.out.trans (hb.mono HBW.out.size))
      clear hb
      obtain ⟨kk, tt, gg, hv⟩ := @getV_some (getS b x.key)
      rw [hv]
      clear hv
      cases hs : (getS b x.key).isSome
      · have HS := Lib.hid hs
        clear hs
        go_wp2
        go_roundw
        case rel =>
          refine ⟨k + 1, hlt, by go_num, fun j y hj hy => ?_, HB.out.alloc HB.out.size _⟩
          by_cases e : j = k
          · subst e
            have := HX.out.symm.trans hy
            simp only [Option.some.injEq] at this
            subst this
            exact HS.out
          · exact HNO.out j y (by omega) hy
        case measure => simp [intOf]; omega
      · have HM : Hid (meetB a b = true) := Lib.hid (any_hit HX.out hs)
        clear hs
        go_wp2
        go_ret
        exact ⟨ret_bool HM.out.symm, HB.out.alloc HB.out.size _⟩
    · obtain rfl : k = a.length := by omega
      have HM : Hid (meetB a b = false) := Lib.hid (any_miss HNO.out)
      clear hlt hk
      go_wp2
      go_ret
      exact ⟨ret_bool HM.out.symm, HBW.out⟩
theorem closure_calls (x : Wr) (B : Nat) (v : Value) (l : List Wr) (w : World) (hB : w.cell? ⟨B, 0, none⟩ = some v) (hI : Rows EW w v l) (hr : RiseW l) :
    Calls Try.prog 45 #[.agg #[.string x.key, .string x.text, .bool x.gone], .pointer (some ⟨B, 0, none⟩)] w fun e w' => e = .returned (.bool (getS l x.key).isSome) ∧ Below w.heap.size w w' := by
  have hB' : (w.alloc (.cells #[.string x.key, .string x.text, .bool x.gone] 70)).cell? ⟨B, 0, none⟩ = some v := (((Below.refl w.heap.size w).alloc (Nat.le_refl _) _).cell (World.block_lt_of_cell? w _ hB)).trans hB
  have HI := Lib.hid hI
  have HR := Lib.hid hr
  clear hI hr hB
  go_enter Try.func45, Try.ntmps45
  go_wp2_with fail
  refine (get_calls _ _ _ _ (HI.out.alloc _) HR.out).mono ?_
  rintro e w' ⟨rfl, hb⟩
  have HB : Hid (Below w.heap.size w w') := Lib.hid (((Below.refl _ w).alloc (Nat.le_refl _) _).trans (hb.mono (by simp)))
  clear hb
  obtain ⟨kk, tt, gg, hv⟩ := @getV_some (getS l x.key)
  rw [hv]
  clear hv
  obtain ⟨s, hs⟩ : ∃ s, (getS l x.key).isSome = s := ⟨_, rfl⟩
  rw [hs]
  have HS := Lib.hid hs
  clear hs
  go_wp2
  go_ret
  exact ⟨ret_bool HS.out.symm, HB.out.alloc HB.out.size _⟩
set_option maxHeartbeats 400000 in
theorem wIndex_calls (B : Nat) (v u : Value) (a b : List Wr) (w : World) (hI : Rows EW w v a) (hB : w.cell? ⟨B, 0, none⟩ = some u) (hJ : Rows EW w u b) (hr : RiseW b) :
    Calls Try.prog 50 #[v, .func (.func 45) #[] #[.pointer (some ⟨B, 0, none⟩)]] w fun e w' => ∃ r : Int, e = .returned (.int .i64 r) ∧ decide (0 ≤ r) = meetB a b ∧ Below w.heap.size w w' := by
  obtain ⟨ad, cap, rfl⟩ := hI.slice
  have HI := Lib.hid hI
  have HJ := Lib.hid hJ
  have HR := Lib.hid hr
  have HBC := Lib.hid hB
  have hle := hI.le
  have hcap := hI.cap_le
  clear hI hJ hr hB
  go_enter Try.func50, Try.ntmps50
  go_wp2
  go_loopw [5, 8] (fun _ i wr => ∃ k : Nat, k ≤ a.length ∧ i = .int .i64 k ∧ (∀ (j : Nat) x, j < k → a[j]? = some x → (getS b x.key).isSome = false) ∧ Below w.heap.size w wr) (fun _ i _ => a.length - (intOf i).toNat)
  case atStart => exact ⟨0, Nat.zero_le _, rfl, fun j y hj => absurd hj (by omega), Below.refl _ _⟩
  case round =>
    obtain ⟨k, hk, rfl, hno, hbw⟩ := hrel
    have HNO := Lib.hid hno
    have HBW := Lib.hid hbw
    have HIR := Lib.hid (HI.out.below hbw)
    have HJR := Lib.hid (HJ.out.below hbw)
    have HCR : Hid (wr.cell? ⟨B, 0, none⟩ = some u) := Lib.hid ((hbw.cell (World.block_lt_of_cell? w _ HBC.out)).trans HBC.out)
    clear hno hbw
    by_cases hlt : k < a.length
    · obtain ⟨x, hx⟩ : ∃ x, a[k]? = some x := ⟨_, List.getElem?_eq_getElem hlt⟩
      have HX := Lib.hid hx
      obtain ⟨bb, off, rfl, hz, hc0, hc1, hc2⟩ := HIR.out.w3 hx
      clear hz hx
      go_wp2_with fail
      refine (closure_calls x B u b _ HCR.out HJR.out HR.out).mono ?_
      rintro e w' ⟨rfl, hb⟩
      have HB := Lib.hid (HBW.out.trans (hb.mono HBW.out.size))
      clear hb
      cases hs : (getS b x.key).isSome
      · have HS := Lib.hid hs
        clear hs
        go_wp2
        go_roundw
        case rel =>
          refine ⟨k + 1, hlt, by go_num, fun j y hj hy => ?_, HB.out⟩
          by_cases e : j = k
          · subst e
            have := HX.out.symm.trans hy
            simp only [Option.some.injEq] at this
            subst this
            exact HS.out
          · exact HNO.out j y (by omega) hy
        case measure => simp [intOf]; omega
      · have HM : Hid (meetB a b = true) := Lib.hid (any_hit HX.out hs)
        clear hs
        go_wp2
        go_ret
        exact ⟨_, rfl, by rw [HM.out]; simp, HB.out⟩
    · obtain rfl : k = a.length := by omega
      have HM : Hid (meetB a b = false) := Lib.hid (any_miss HNO.out)
      clear hlt hk
      go_wp2
      go_ret
      exact ⟨_, rfl, by rw [HM.out]; simp, HBW.out⟩
theorem wContains_calls (B : Nat) (v u : Value) (a b : List Wr) (w : World) (hI : Rows EW w v a) (hB : w.cell? ⟨B, 0, none⟩ = some u) (hJ : Rows EW w u b) (hr : RiseW b) :
    Calls Try.prog 44 #[v, .func (.func 45) #[] #[.pointer (some ⟨B, 0, none⟩)]] w fun e w' => e = .returned (.bool (meetB a b)) ∧ Below w.heap.size w w' := by
  have HX : Hid (∀ W, W = w → Calls Try.prog 50 #[v, .func (.func 45) #[] #[.pointer (some ⟨B, 0, none⟩)]] W fun e w' => ∃ r : Int, e = .returned (.int .i64 r) ∧ decide (0 ≤ r) = meetB a b ∧ Below W.heap.size W w') := Lib.hid (fun W e => by subst e; exact wIndex_calls B v u a b _ hI hB hJ hr)
  clear hI hB hJ hr
  go_enter Try.func44, Try.ntmps44
  go_wp2_with fail
  refine (HX.out _ rfl).mono ?_
  rintro e w' ⟨r, rfl, hr, hb⟩
  have HB := Lib.hid hb
  have HR := Lib.hid hr
  clear hb hr
  go_wp2
  go_ret
  exact ⟨ret_bool HR.out, HB.out⟩
theorem meet_calls (v u : Value) (a b : List Wr) (w : World) (hI : Rows EW w v a) (hJ : Rows EW w u b) (hr : RiseW b) :
    Calls Try.prog 31 #[v, u] w fun e w' => e = .returned (.bool (meetB a b)) ∧ Below w.heap.size w w' := by
  obtain ⟨ua, uc, rfl⟩ := hJ.slice
  have HI := Lib.hid hI
  have HJ := Lib.hid hJ
  have HR := Lib.hid hr
  have HC : Hid ((w.alloc (.cells #[.slice ua b.length uc] 35)).cell? ⟨w.heap.size, 0, none⟩ = some (.slice ua b.length uc)) := Lib.hid (cell_of_row _ _ _ _ _ _ (heap_alloc_new w _))
  clear hI hJ hr
  go_enter Try.func31, Try.ntmps31
  go_wp2_with fail
  refine (wContains_calls w.heap.size _ _ a b _ (HI.out.alloc _) HC.out (HJ.out.alloc _) HR.out).mono ?_
  rintro e w' ⟨rfl, hb⟩
  have HB : Hid (Below w.heap.size w w') := Lib.hid (((Below.refl _ w).alloc (Nat.le_refl _) _).trans (hb.mono (by simp)))
  clear hb
  go_wp2
  go_ret
  exact ⟨rfl, HB.out⟩
end Go.Proofs.Ytdeecdebhigafaa
