/- MODEL: slices.Clone of commits and of writes; Add. -/
import Derived.Test.YtdeecdebhigafaaMdlClash
import Derived.Test.YtdeecdebhigafaaGrowR
namespace Go.Proofs.Ytdeecdebhigafaa
open Go Go.RowKit

theorem rowC : RowOfW Try.prog 29 72 EC (.agg #[.int .u64 0, .slice none 0 0]) 32 := ⟨Try.underlying29, by kernel_rfl, rfl⟩
theorem rowRC : RowOfW Try.prog 22 62 EC (.agg #[.int .u64 0, .slice none 0 0]) 32 := ⟨Try.underlying22, by kernel_rfl, rfl⟩
set_option maxHeartbeats 400000 in
theorem cloneC_calls (v : Value) (l : List Cl) (w : World) (hI : Rows EC w v l) (hl : l.length ≤ 1000) :
    Calls Try.prog 33 #[v] w fun e w' => ∃ v', e = .returned v' ∧ OwnR EC 72 w' w.heap.size v' l ∧ Below w.heap.size w w' := by
  obtain ⟨a, cap, rfl⟩ := hI.slice
  have HI := Lib.hid hI
  have HL := Lib.hid hl
  have hcap := hI.cap_le
  clear hI hl
  cases a with
  | none =>
    have HN : Hid (l = []) := Lib.hid (by
      cases l with
      | nil => rfl
      | cons x l => obtain ⟨b, off, h, _⟩ := HI.out.at_ (by simp); cases h)
    have hn0 := HN.out
    subst hn0
    clear HN hcap HI HL
    have q : ∀ (w : World) (a : Option Addr) (n c n' c' : Nat), (binOp .eql 29 (.slice a n c) (.slice none n' c')).run Try.prog w = .ok (.bool a.isNone) w := fun w a n c n' c' => Lib.run_eql_slice_nil w _ _ a n c n' c' Try.underlying29
    go_enter Try.func33, Try.ntmps33
    go_wp2
    go_ret
    exact ⟨_, rfl, OwnR.nil_ _ _ _ _, Below.refl _ _⟩
  | some ad =>
    have HE : Hid (OwnR EC 72 (w.alloc (.cells #[] 72)) w.heap.size (.slice (some ⟨w.heap.size, 0, none⟩) 0 0) []) := Lib.hid (World.ownsRow_made w #[] 0 (Nat.le_refl _) (by simp [maxLen]) (by simp))
    have q : ∀ (w : World) (a : Option Addr) (n c n' c' : Nat), (binOp .eql 29 (.slice a n c) (.slice none n' c')).run Try.prog w = .ok (.bool a.isNone) w := fun w a n c n' c' => Lib.run_eql_slice_nil w _ _ a n c n' c' Try.underlying29
    go_enter Try.func33, Try.ntmps33
    go_wp2_with (at_builtin; refine wpList_growR rfl (.tmp 5) (.tmp 6) 29 rfl rowC w.heap.size _ [] rfl HE.out _ l rfl (HI.out.alloc _) 1000 ?c2 ⟨by simp [maxLen], by omega⟩ ?c1 ?_; (case c1 => simp); (case c2 => (have := HL.out; simp; omega)); intro A4 c4 w4 hown4 hb4; have HOWN4 := Lib.hid hown4; have HB4 := Lib.hid hb4; clear hown4 hb4)
    go_ret
    exact ⟨_, rfl, (by have h := HOWN4.out; rw [List.length_nil, Nat.zero_add, List.nil_append] at h; exact h), ((Below.refl _ w).alloc (Nat.le_refl _) _).trans HB4.out⟩
set_option maxHeartbeats 400000 in
theorem cloneW_calls (v : Value) (l : List Wr) (w : World) (hI : Rows EW w v l) (hl : l.length ≤ 1000) :
    Calls Try.prog 34 #[v] w fun e w' => ∃ v', e = .returned v' ∧ OwnR EW 70 w' w.heap.size v' l ∧ Below w.heap.size w w' := by
  obtain ⟨a, cap, rfl⟩ := hI.slice
  have HI := Lib.hid hI
  have HL := Lib.hid hl
  have hcap := hI.cap_le
  clear hI hl
  cases a with
  | none =>
    have HN : Hid (l = []) := Lib.hid (by
      cases l with
      | nil => rfl
      | cons x l => obtain ⟨b, off, h, _⟩ := HI.out.at_ (by simp); cases h)
    have hn0 := HN.out
    subst hn0
    clear HN hcap HI HL
    have q : ∀ (w : World) (a : Option Addr) (n c n' c' : Nat), (binOp .eql 35 (.slice a n c) (.slice none n' c')).run Try.prog w = .ok (.bool a.isNone) w := fun w a n c n' c' => Lib.run_eql_slice_nil w _ _ a n c n' c' Try.underlying35
    go_enter Try.func34, Try.ntmps34
    go_wp2
    go_ret
    exact ⟨_, rfl, OwnR.nil_ _ _ _ _, Below.refl _ _⟩
  | some ad =>
    have HE : Hid (OwnR EW 70 (w.alloc (.cells #[] 70)) w.heap.size (.slice (some ⟨w.heap.size, 0, none⟩) 0 0) []) := Lib.hid (World.ownsRow_made w #[] 0 (Nat.le_refl _) (by simp [maxLen]) (by simp))
    have q : ∀ (w : World) (a : Option Addr) (n c n' c' : Nat), (binOp .eql 35 (.slice a n c) (.slice none n' c')).run Try.prog w = .ok (.bool a.isNone) w := fun w a n c n' c' => Lib.run_eql_slice_nil w _ _ a n c n' c' Try.underlying35
    go_enter Try.func34, Try.ntmps34
    go_wp2_with (at_builtin; refine wpList_growR rfl (.tmp 5) (.tmp 6) 35 rfl rowW w.heap.size _ [] rfl HE.out _ l rfl (HI.out.alloc _) 1000 ?c2 ⟨by simp [maxLen], by omega⟩ ?c1 ?_; (case c1 => simp); (case c2 => (have := HL.out; simp; omega)); intro A4 c4 w4 hown4 hb4; have HOWN4 := Lib.hid hown4; have HB4 := Lib.hid hb4; clear hown4 hb4)
    go_ret
    exact ⟨_, rfl, (by have h := HOWN4.out; rw [List.length_nil, Nat.zero_add, List.nil_append] at h; exact h), ((Below.refl _ w).alloc (Nat.le_refl _) _).trans HB4.out⟩
/-- the sets of commits, as they lie -/
def Sets (w : World) (l : List Cl) (cs : List Ct) : Prop := l.length = cs.length ∧ ∀ (i : Nat) x c, l[i]? = some x → cs[i]? = some c → x.stamp = c.stamp ∧ Rows EW w (.slice x.a x.n x.cap) c.set
theorem Sets.below {w w' : World} {l : List Cl} {cs : List Ct} (h : Sets w l cs) (hb : Below w.heap.size w w') : Sets w' l cs := ⟨h.1, fun i x c hx hc => ⟨(h.2 i x c hx hc).1, (h.2 i x c hx hc).2.below hb⟩⟩
theorem Coms.sets {w : World} {v : Value} {cs : List Ct} (h : Coms w v cs) : ∃ l, Rows EC w v l ∧ Sets w l cs := by
  obtain ⟨l, h1, h2, h3⟩ := h
  exact ⟨l, h1, h2, h3⟩
theorem Coms.of {w : World} {v : Value} {l : List Cl} {cs : List Ct} (h : Rows EC w v l) (k : Sets w l cs) : Coms w v cs := ⟨l, h, k.1, k.2⟩
theorem Sets.snoc {w : World} {l : List Cl} {cs : List Ct} {x : Cl} {c : Ct} (h : Sets w l cs) (hs : x.stamp = c.stamp) (hr : Rows EW w (.slice x.a x.n x.cap) c.set) : Sets w (l ++ [x]) (cs ++ [c]) := by
  refine ⟨by rw [List.length_append, List.length_append, h.1]; rfl, fun i y d hy hd => ?_⟩
  rcases Nat.lt_trichotomy i l.length with hi | hi | hi
  · rw [List.getElem?_append_left hi] at hy
    rw [List.getElem?_append_left (by rw [← h.1]; exact hi)] at hd
    exact h.2 i y d hy hd
  · subst hi
    rw [List.getElem?_append_right (Nat.le_refl _), Nat.sub_self] at hy
    rw [List.getElem?_append_right (by rw [h.1]; exact Nat.le_refl _), h.1, Nat.sub_self] at hd
    simp only [List.getElem?_cons_zero, Option.some.injEq] at hy hd
    subst hy hd
    exact ⟨hs, hr⟩
  · rw [List.getElem?_append_right (by omega), List.getElem?_eq_none (by simp; omega)] at hy
    cases hy
set_option maxHeartbeats 800000 in
theorem add_end (v u : Value) (cs : List Ct) (w : World) (hI : Coms w v cs) (hl : cs.length ≤ 1000) (h : 60000 ≤ lastN cs) :
    Calls Try.prog 15 #[v, u] w fun e w' => ∃ v', e = .returned (.tuple #[v', .int .i64 10]) ∧ Coms w' v' cs ∧ Below w.heap.size w w' := by
  obtain ⟨l, hr, hs⟩ := hI.sets
  obtain ⟨a, cap, rfl⟩ := hI.slice
  have HR := Lib.hid hr
  have HS := Lib.hid hs
  have HL : Hid (l.length ≤ 1000) := Lib.hid (by rw [hs.1]; exact hl)
  have t0 : decide ((60000 : Int) ≤ (lastN cs : Int)) = true := by simp; omega
  clear hI hr hs hl h
  go_enter Try.func15, Try.ntmps15
  go_wp2_with fail
  refine (cloneC_calls _ l _ HR.out HL.out).mono ?_
  rintro e w1 ⟨v1, rfl, ho1, hb1⟩
  have HC1 := Lib.hid (Coms.of (ho1.rows (by have := HL.out; omega)) (HS.out.below hb1))
  have HB1 := Lib.hid hb1
  clear ho1 hb1
  go_wp2_with fail
  refine (last_calls _ cs _ HC1.out).mono ?_
  rintro e w2 ⟨rfl, rfl⟩
  go_wp2
  go_ret2
  exact ⟨_, rfl, HC1.out, HB1.out⟩
set_option maxHeartbeats 800000 in
theorem add_more (v u : Value) (cs : List Ct) (s : List Wr) (w : World) (hI : Coms w v cs) (hJ : Rows EW w u s) (hl : cs.length ≤ 900) (hm : s.length ≤ 1000) (h : lastN cs < 60000) :
    Calls Try.prog 15 #[v, u] w fun e w' => ∃ v', e = .returned (.tuple #[v', .int .i64 0]) ∧ Coms w' v' (cs ++ [⟨lastN cs + 1, s⟩]) ∧ Below w.heap.size w w' := by
  obtain ⟨l, hr, hs⟩ := hI.sets
  obtain ⟨a, cap, rfl⟩ := hI.slice
  obtain ⟨ua, uc, rfl⟩ := hJ.slice
  have HR := Lib.hid hr
  have HS := Lib.hid hs
  have HJ := Lib.hid hJ
  have HL : Hid (l.length ≤ 900) := Lib.hid (by rw [hs.1]; exact hl)
  have HM := Lib.hid hm
  have t0 : decide ((60000 : Int) ≤ (lastN cs : Int)) = false := by simp; omega
  have hlt : lastN cs < 60000 := h
  clear hI hr hs hl h hJ hm
  go_enter Try.func15, Try.ntmps15
  go_wp2_with fail
  refine (cloneC_calls _ l _ HR.out (by have := HL.out; omega)).mono ?_
  rintro e w1 ⟨v1, rfl, ho1, hb1⟩
  have HC1 := Lib.hid (Coms.of (ho1.rows (by have := HL.out; omega)) (HS.out.below hb1))
  have HO1 := Lib.hid ho1
  have HB1 := Lib.hid hb1
  clear ho1 hb1
  obtain ⟨A1, c1, e1⟩ := HO1.out.slice
  subst e1
  go_wp2_with fail
  refine (last_calls _ cs _ HC1.out).mono ?_
  rintro e w2 ⟨rfl, rfl⟩
  go_wp2_with fail
  refine (last_calls _ cs _ HC1.out).mono ?_
  rintro e w2 ⟨rfl, rfl⟩
  go_wp2_with fail
  refine (cloneW_calls _ s _ (HJ.out.below HB1.out) HM.out).mono ?_
  rintro e w3 ⟨v3, rfl, ho3, hb3⟩
  obtain ⟨A3, c3, e3⟩ := ho3.slice
  subst e3
  have HO3 := Lib.hid ho3
  have HB3 := Lib.hid hb3
  clear ho3 hb3
  have HNEW : Hid (Rows EC (w3.alloc (.cells #[.int .u64 ((lastN cs : Int) + 1), .slice A3 s.length c3] 72)) (.slice (some ⟨w3.heap.size, 0, none⟩) 1 1) [⟨lastN cs + 1, A3, s.length, c3⟩]) := Lib.hid (by have e := rows_new EC w3 72 ⟨lastN cs + 1, A3, s.length, c3⟩; simpa [EC] using e)
  have HSZ : Hid (w1.heap.size ≤ w3.heap.size ∧ w.heap.size ≤ w1.heap.size) := Lib.hid ⟨HB3.out.size, HB1.out.size⟩
  have HB13 := Lib.hid (HB1.out.trans (HB3.out.mono HB1.out.size))
  go_wp2_with (at_builtin; refine wpList_growRg rfl (.tmp 12) (.tmp 19) 29 rfl rowC w.heap.size _ l rfl ((HO1.out.below HB3.out).alloc _) _ [⟨lastN cs + 1, A3, s.length, c3⟩] rfl HNEW.out 1000 ?c2 ⟨by simp [maxLen], by omega⟩ ?c1 ?_; (case c1 => (have := HSZ.out; simp; omega)); (case c2 => (have := HL.out; simp; omega)); intro A5 c5 w5 hown5 hb5 hg5; have HOWN5 := Lib.hid hown5; have HB5 := Lib.hid hb5; have HG5 := Lib.hid hg5; clear hown5 hb5 hg5)
  go_ret2
  have hw5 : Below w.heap.size w w5 := (HB13.out.alloc HB13.out.size _).trans HB5.out
  have hset : Rows EW w5 (.slice A3 s.length c3) s := by
    refine ((HO3.out.rows (by have := HM.out; omega)).alloc _).grown HG5.out fun ad e => ?_
    have h1 := HO3.out.lt ad e
    have h2 := HO1.out.lt
    intro hh
    cases A1 with
    | none => cases hh
    | some a1 =>
      have h3 := h2 a1 rfl
      have h4 : ad.block = a1.block := Option.some.inj hh
      omega
  exact ⟨_, rfl, Coms.of (HOWN5.out.rows (by have := HL.out; simp; omega)) ((HS.out.below hw5).snoc rfl hset), hw5⟩
end Go.Proofs.Ytdeecdebhigafaa
