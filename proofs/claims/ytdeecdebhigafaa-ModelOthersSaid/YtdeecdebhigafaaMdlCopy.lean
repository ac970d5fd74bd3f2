/- MODEL: one slice of structs into another, element by element. -/
import Derived.Test.YtdeecdebhigafaaMdlBase
namespace Go.Proofs.Ytdeecdebhigafaa
open Go Go.RowKit

set_option maxHeartbeats 400000 in
theorem theirs15_calls (v : Value) (l : List Wr) (w : World) (hI : Rows EW w v l) (hl : l.length ≤ 60) :
    Calls Try.prog 16 #[v] w fun e w' => ∃ v', e = .returned v' ∧ OwnR EW 70 w' w.heap.size v' l ∧ Below w.heap.size w w' := by
  obtain ⟨a, cap, rfl⟩ := hI.slice
  have HI := Lib.hid hI
  have HL := Lib.hid hl
  have HX : Hid (l.take l.length = l) := Lib.hid (List.take_length)
  have hcap := hI.cap_le
  clear hI hl
  go_enter Try.func16, Try.ntmps16
  go_wp2
  go_loopw [3, 5, 8] (fun v _ i wr => ∃ k : Nat, k ≤ l.length ∧ i = .int .i64 k ∧ OwnR EW 70 wr w.heap.size v (l.take k) ∧ Below w.heap.size w wr) (fun _ _ i _ => l.length - (intOf i).toNat)
  case atStart => exact ⟨0, Nat.zero_le _, rfl, OwnR.nil_ _ _ _ _, Below.refl _ _⟩
  case round =>
    obtain ⟨k, hk, rfl, hown, hbw⟩ := hrel
    have HBW := Lib.hid hbw
    by_cases hlt : k < l.length
    · obtain ⟨x, hx⟩ : ∃ x, l[k]? = some x := ⟨_, List.getElem?_eq_getElem hlt⟩
      have HT : Hid (l.take (k + 1) = l.take k ++ [x]) := Lib.hid (by rw [List.take_add_one, hx]; rfl)
      have HLL : Hid ((l.take k).length = k) := Lib.hid (by rw [List.length_take]; omega)
      obtain ⟨b, off, rfl, hz, hc0, hc1, hc2⟩ := (HI.out.below HBW.out).w3 hx
      generalize l.take k = L at *
      obtain ⟨A, C, rfl⟩ := hown.slice
      have HOWN := Lib.hid hown
      have HNEW : Hid (Rows EW ((wr.alloc (.cells #[.string x.key, .string x.text, .bool x.gone] 52)).alloc (.cells #[.string x.key, .string x.text, .bool x.gone] 70)) (.slice (some ⟨wr.heap.size + 1, 0, none⟩) 1 1) [x]) := Lib.hid (by have e := rows_new EW (wr.alloc (.cells #[.string x.key, .string x.text, .bool x.gone] 52)) 70 x; rw [World.size_alloc] at e; exact e)
      clear hz hx hown hbw
      have hle := HL.out
      go_wp2_with (at_builtin; refine wpList_growR rfl (.tmp 12) (.tmp 14) 35 rfl rowW w.heap.size _ L rfl ((HOWN.out.alloc _).alloc _) _ [x] rfl HNEW.out 61 ?c2 ⟨by simp [maxLen], by omega⟩ ?c1 ?_; (case c1 => (have := HBW.out.size; simp; omega)); (case c2 => (have := HLL.out; have := HL.out; simp; omega)); intro A4 c4 w4 hown4 hb4; have HOWN4 := Lib.hid hown4; have HB4 := Lib.hid hb4; clear hown4 hb4)
      go_roundw
      case rel => exact ⟨k + 1, hlt, by go_num, by rw [HT.out]; exact HOWN4.out, (((HBW.out.alloc HBW.out.size _).alloc (by have := HBW.out.size; simp; omega) _)).trans HB4.out⟩
      case measure => simp [intOf]; omega
    · obtain rfl : k = l.length := by omega
      rw [HX.out] at hown
      have HOWN := Lib.hid hown
      clear hlt hk hown hbw
      go_wp2
      go_ret
      exact ⟨_, rfl, HOWN.out, HBW.out⟩
set_option maxHeartbeats 400000 in
theorem ours15_calls (v : Value) (l : List Wr) (w : World) (hI : Rows EW w v l) (hl : l.length ≤ 60) :
    Calls Try.prog 36 #[v] w fun e w' => ∃ v', e = .returned v' ∧ OwnR EW 52 w' w.heap.size v' l ∧ Below w.heap.size w w' := by
  obtain ⟨a, cap, rfl⟩ := hI.slice
  have HI := Lib.hid hI
  have HL := Lib.hid hl
  have HX : Hid (l.take l.length = l) := Lib.hid (List.take_length)
  have hcap := hI.cap_le
  clear hI hl
  go_enter Try.func36, Try.ntmps36
  go_wp2
  go_loopw [3, 5, 8] (fun v _ i wr => ∃ k : Nat, k ≤ l.length ∧ i = .int .i64 k ∧ OwnR EW 52 wr w.heap.size v (l.take k) ∧ Below w.heap.size w wr) (fun _ _ i _ => l.length - (intOf i).toNat)
  case atStart => exact ⟨0, Nat.zero_le _, rfl, OwnR.nil_ _ _ _ _, Below.refl _ _⟩
  case round =>
    obtain ⟨k, hk, rfl, hown, hbw⟩ := hrel
    have HBW := Lib.hid hbw
    by_cases hlt : k < l.length
    · obtain ⟨x, hx⟩ : ∃ x, l[k]? = some x := ⟨_, List.getElem?_eq_getElem hlt⟩
      have HT : Hid (l.take (k + 1) = l.take k ++ [x]) := Lib.hid (by rw [List.take_add_one, hx]; rfl)
      have HLL : Hid ((l.take k).length = k) := Lib.hid (by rw [List.length_take]; omega)
      obtain ⟨b, off, rfl, hz, hc0, hc1, hc2⟩ := (HI.out.below HBW.out).w3 hx
      generalize l.take k = L at *
      obtain ⟨A, C, rfl⟩ := hown.slice
      have HOWN := Lib.hid hown
      have HNEW : Hid (Rows EW ((wr.alloc (.cells #[.string x.key, .string x.text, .bool x.gone] 70)).alloc (.cells #[.string x.key, .string x.text, .bool x.gone] 52)) (.slice (some ⟨wr.heap.size + 1, 0, none⟩) 1 1) [x]) := Lib.hid (by have e := rows_new EW (wr.alloc (.cells #[.string x.key, .string x.text, .bool x.gone] 70)) 52 x; rw [World.size_alloc] at e; exact e)
      clear hz hx hown hbw
      have hle := HL.out
      go_wp2_with (at_builtin; refine wpList_growR rfl (.tmp 12) (.tmp 14) 23 rfl rowRW w.heap.size _ L rfl ((HOWN.out.alloc _).alloc _) _ [x] rfl HNEW.out 61 ?c2 ⟨by simp [maxLen], by omega⟩ ?c1 ?_; (case c1 => (have := HBW.out.size; simp; omega)); (case c2 => (have := HLL.out; have := HL.out; simp; omega)); intro A4 c4 w4 hown4 hb4; have HOWN4 := Lib.hid hown4; have HB4 := Lib.hid hb4; clear hown4 hb4)
      go_roundw
      case rel => exact ⟨k + 1, hlt, by go_num, by rw [HT.out]; exact HOWN4.out, (((HBW.out.alloc HBW.out.size _).alloc (by have := HBW.out.size; simp; omega) _)).trans HB4.out⟩
      case measure => simp [intOf]; omega
    · obtain rfl : k = l.length := by omega
      rw [HX.out] at hown
      have HOWN := Lib.hid hown
      clear hlt hk hown hbw
      go_wp2
      go_ret
      exact ⟨_, rfl, HOWN.out, HBW.out⟩
set_option maxHeartbeats 400000 in
theorem back_calls (v : Value) (l : List Pr) (w : World) (hI : Rows EP w v l) (hl : l.length ≤ 10000) :
    Calls Try.prog 25 #[v] w fun e w' => ∃ v', e = .returned v' ∧ OwnR EP 79 w' w.heap.size v' l ∧ Below w.heap.size w w' := by
  obtain ⟨a, cap, rfl⟩ := hI.slice
  have HI := Lib.hid hI
  have HL := Lib.hid hl
  have HX : Hid (l.take l.length = l) := Lib.hid (List.take_length)
  have hcap := hI.cap_le
  clear hI hl
  go_enter Try.func25, Try.ntmps25
  go_wp2
  go_loopw [3, 5, 8] (fun v _ i wr => ∃ k : Nat, k ≤ l.length ∧ i = .int .i64 k ∧ OwnR EP 79 wr w.heap.size v (l.take k) ∧ Below w.heap.size w wr) (fun _ _ i _ => l.length - (intOf i).toNat)
  case atStart => exact ⟨0, Nat.zero_le _, rfl, OwnR.nil_ _ _ _ _, Below.refl _ _⟩
  case round =>
    obtain ⟨k, hk, rfl, hown, hbw⟩ := hrel
    have HBW := Lib.hid hbw
    by_cases hlt : k < l.length
    · obtain ⟨x, hx⟩ : ∃ x, l[k]? = some x := ⟨_, List.getElem?_eq_getElem hlt⟩
      have HT : Hid (l.take (k + 1) = l.take k ++ [x]) := Lib.hid (by rw [List.take_add_one, hx]; rfl)
      have HLL : Hid ((l.take k).length = k) := Lib.hid (by rw [List.length_take]; omega)
      obtain ⟨b, off, rfl, hz, hc0, hc1⟩ := (HI.out.below HBW.out).p2 hx
      generalize l.take k = L at *
      obtain ⟨A, C, rfl⟩ := hown.slice
      have HOWN := Lib.hid hown
      have HNEW : Hid (Rows EP ((wr.alloc (.cells #[.string x.key, .string x.text] 60)).alloc (.cells #[.string x.key, .string x.text] 79)) (.slice (some ⟨wr.heap.size + 1, 0, none⟩) 1 1) [x]) := Lib.hid (by have e := rows_new EP (wr.alloc (.cells #[.string x.key, .string x.text] 60)) 79 x; rw [World.size_alloc] at e; exact e)
      clear hz hx hown hbw
      have hle := HL.out
      go_wp2_with (at_builtin; refine wpList_growR rfl (.tmp 12) (.tmp 14) 46 rfl rowRP w.heap.size _ L rfl ((HOWN.out.alloc _).alloc _) _ [x] rfl HNEW.out 10001 ?c2 ⟨by simp [maxLen], by omega⟩ ?c1 ?_; (case c1 => (have := HBW.out.size; simp; omega)); (case c2 => (have := HLL.out; have := HL.out; simp; omega)); intro A4 c4 w4 hown4 hb4; have HOWN4 := Lib.hid hown4; have HB4 := Lib.hid hb4; clear hown4 hb4)
      go_roundw
      case rel => exact ⟨k + 1, hlt, by go_num, by rw [HT.out]; exact HOWN4.out, (((HBW.out.alloc HBW.out.size _).alloc (by have := HBW.out.size; simp; omega) _)).trans HB4.out⟩
      case measure => simp [intOf]; omega
    · obtain rfl : k = l.length := by omega
      rw [HX.out] at hown
      have HOWN := Lib.hid hown
      clear hlt hk hown hbw
      go_wp2
      go_ret
      exact ⟨_, rfl, HOWN.out, HBW.out⟩
end Go.Proofs.Ytdeecdebhigafaa
