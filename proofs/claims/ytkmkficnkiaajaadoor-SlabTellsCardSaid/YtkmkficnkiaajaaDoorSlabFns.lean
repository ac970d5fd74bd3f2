/- SLAB: the walks of the program's functions. -/
import Derived.Test.YtkmkficnkiaajaaDoorWordLaws
namespace Go.Proofs.YtkmkficnkiaajaaDoor
open Go Go.RowKit

/-- the tables of blocks and lines -/
def TabB (w : World) : Prop := w.cell? ⟨0, 1, none⟩ = some (.int .i64 16) ∧ w.cell? ⟨0, 2, none⟩ = some (.int .i64 4)
def TabL (w : World) : Prop := w.cell? ⟨1, 1, none⟩ = some (.int .i64 1) ∧ w.cell? ⟨1, 2, none⟩ = some (.int .i64 4)
theorem TabB.drewN {w : World} (h : TabB w) (n : Nat) : TabB (w.drewN n) := h
theorem TabL.drewN {w : World} (h : TabL w) (n : Nat) : TabL (w.drewN n) := h
theorem TabB.below {w w' : World} (h : TabB w) (hb : Below w.heap.size w w') : TabB w' :=
  ⟨(hb.cell (World.block_lt_of_cell? w _ h.1)).trans h.1, (hb.cell (World.block_lt_of_cell? w _ h.2)).trans h.2⟩
theorem TabL.below {w w' : World} (h : TabL w) (hb : Below w.heap.size w w') : TabL w' :=
  ⟨(hb.cell (World.block_lt_of_cell? w _ h.1)).trans h.1, (hb.cell (World.block_lt_of_cell? w _ h.2)).trans h.2⟩
def blkN (c : Int) : Int := if c = 1 then 16 else if c = 2 then 4 else 0
def linN (c : Int) : Int := if c = 1 then 1 else if c = 2 then 4 else 0
def knownP (c : Int) : Prop := c = 1 ∨ c = 2
instance (c : Int) : Decidable (knownP c) := by unfold knownP; infer_instance
theorem known_calls (c : Int) (w : World) : Calls Tryd.prog 48 #[.int .i64 c] w fun e w' => e = .returned (.bool (decide (knownP c))) ∧ w = w' := by
  by_cases h1 : c = 1
  · subst h1
    go_enter Tryd.func48, Tryd.ntmps48
    go_wp2
    go_ret
    exact ⟨rfl, rfl⟩
  · by_cases h2 : c = 2
    · subst h2
      go_enter Tryd.func48, Tryd.ntmps48
      go_wp2
      go_ret
      exact ⟨rfl, rfl⟩
    · have e : decide (knownP c) = false := decide_eq_false (by unfold knownP; omega)
      have t1 : (c == 1) = false := by simpa using h1
      have t2 : (c == 2) = false := by simpa using h2
      rw [e]
      clear e h1 h2
      go_enter Tryd.func48, Tryd.ntmps48
      go_wp2
      go_ret
      exact ⟨rfl, rfl⟩
theorem blocks_calls (c : Int) (w : World) (hT : TabB w) : Calls Tryd.prog 27 #[.int .i64 c] w fun e w' => e = .returned (.int .i64 (blkN c)) ∧ w = w' := by
  have hc := known_calls c w
  by_cases h1 : c = 1
  · subst h1
    rw [show decide (knownP 1) = true from rfl] at hc
    have HC := Lib.hid hc
    have h := hT.1
    clear hc
    go_enter Tryd.func27, Tryd.ntmps27
    go_wp2_with (go_at_call 48; (with_reducible refine HC.out.mono ?_); rintro e w' ⟨rfl, rfl⟩)
    go_ret
    exact ⟨rfl, rfl⟩
  · by_cases h2 : c = 2
    · subst h2
      rw [show decide (knownP 2) = true from rfl] at hc
      have HC := Lib.hid hc
      have h := hT.2
      clear hc
      go_enter Tryd.func27, Tryd.ntmps27
      go_wp2_with (go_at_call 48; (with_reducible refine HC.out.mono ?_); rintro e w' ⟨rfl, rfl⟩)
      go_ret
      exact ⟨rfl, rfl⟩
    · have e : decide (knownP c) = false := decide_eq_false (by unfold knownP; omega)
      have e2 : blkN c = 0 := by unfold blkN; rw [if_neg h1, if_neg h2]
      rw [e] at hc
      rw [e2]
      have HC := Lib.hid hc
      clear e e2 h1 h2 hc
      go_enter Tryd.func27, Tryd.ntmps27
      go_wp2_with (go_at_call 48; (with_reducible refine HC.out.mono ?_); rintro e w' ⟨rfl, rfl⟩)
      go_ret
      exact ⟨rfl, rfl⟩
theorem lines_calls (c : Int) (w : World) (hT : TabL w) : Calls Tryd.prog 37 #[.int .i64 c] w fun e w' => e = .returned (.int .i64 (linN c)) ∧ w = w' := by
  have hc := known_calls c w
  by_cases h1 : c = 1
  · subst h1
    rw [show decide (knownP 1) = true from rfl] at hc
    have HC := Lib.hid hc
    have h := hT.1
    clear hc
    go_enter Tryd.func37, Tryd.ntmps37
    go_wp2_with (go_at_call 48; (with_reducible refine HC.out.mono ?_); rintro e w' ⟨rfl, rfl⟩)
    go_ret
    exact ⟨rfl, rfl⟩
  · by_cases h2 : c = 2
    · subst h2
      rw [show decide (knownP 2) = true from rfl] at hc
      have HC := Lib.hid hc
      have h := hT.2
      clear hc
      go_enter Tryd.func37, Tryd.ntmps37
      go_wp2_with (go_at_call 48; (with_reducible refine HC.out.mono ?_); rintro e w' ⟨rfl, rfl⟩)
      go_ret
      exact ⟨rfl, rfl⟩
    · have e : decide (knownP c) = false := decide_eq_false (by unfold knownP; omega)
      have e2 : linN c = 0 := by unfold linN; rw [if_neg h1, if_neg h2]
      rw [e] at hc
      rw [e2]
      have HC := Lib.hid hc
      clear e e2 h1 h2 hc
      go_enter Tryd.func37, Tryd.ntmps37
      go_wp2_with (go_at_call 48; (with_reducible refine HC.out.mono ?_); rintro e w' ⟨rfl, rfl⟩)
      go_ret
      exact ⟨rfl, rfl⟩
/-- the parts of a word -/
def clsN (n : Nat) : Nat := fieldN n 16 2
def takN (n : Nat) : Nat := fieldN n 0 16
theorem clsN_eq (n : Nat) : clsN n = n / 65536 % 4 := rfl
theorem takN_eq (n : Nat) : takN n = n % 65536 := by unfold takN fieldN; simp
theorem class_calls (n : Nat) (w : World) (hn : n < 18446744073709551616) : Calls Tryd.prog 49 #[.int .u64 n] w fun e w' => e = .returned (.int .i64 ((clsN n : Nat) : Int)) ∧ ∃ m, w' = w.drewN m := by
  have hlt : clsN n < 4 := by rw [clsN_eq]; omega
  have HN := Lib.hid hn
  have HF : Hid (fieldN n (clampN 16) (clampN 2) = clsN n) := Lib.hid rfl
  clear hn
  generalize clsN n = c at *
  go_enter Tryd.func49, Tryd.ntmps49
  go_wp2_with (go_at_call 14; (with_reducible refine (field_at _ _ _ n c _ rfl HN.out HF.out).mono ?_); rintro e w' ⟨rfl, m, rfl⟩)
  go_ret
  exact ⟨rfl, _, rfl⟩
theorem taken_calls (n : Nat) (w : World) (hn : n < 18446744073709551616) : Calls Tryd.prog 46 #[.int .u64 n] w fun e w' => e = .returned (.int .u64 ((takN n : Nat) : Int)) ∧ ∃ m, w' = w.drewN m := by
  have HN := Lib.hid hn
  have HF : Hid (fieldN n (clampN 0) (clampN 16) = takN n) := Lib.hid rfl
  clear hn
  generalize takN n = c at *
  go_enter Tryd.func46, Tryd.ntmps46
  go_wp2_with (go_at_call 14; (with_reducible refine (field_at _ _ _ n c _ rfl HN.out HF.out).mono ?_); rintro e w' ⟨rfl, m, rfl⟩)
  go_ret
  exact ⟨rfl, _, rfl⟩
/-- a word that a slab may have -/
def rightP (n : Nat) : Prop := n = 0 ∨ (n / 65536 = 1 ∧ 0 < n % 65536) ∨ (n / 65536 = 2 ∧ 0 < n % 65536 ∧ n % 65536 < 16)
instance (n : Nat) : Decidable (rightP n) := by unfold rightP; infer_instance
theorem known_at (c : Int) (b : Bool) (w : World) (h : decide (knownP c) = b) : Calls Tryd.prog 48 #[.int .i64 c] w fun e w' => e = .returned (.bool b) ∧ w = w' := by
  subst h; exact known_calls c w
theorem blocks_at (c r : Int) (w : World) (hT : TabB w) (h : blkN c = r) : Calls Tryd.prog 27 #[.int .i64 c] w fun e w' => e = .returned (.int .i64 r) ∧ w = w' := by
  subst h; exact blocks_calls c w hT
theorem class_at (x c : Int) (n : Nat) (w : World) (hx : x = n) (hn : n < 18446744073709551616) (h : ((clsN n : Nat) : Int) = c) : Calls Tryd.prog 49 #[.int .u64 x] w fun e w' => e = .returned (.int .i64 c) ∧ ∃ m, w' = w.drewN m := by
  subst hx h; exact class_calls n w hn
theorem taken_at (x t : Int) (n : Nat) (w : World) (hx : x = n) (hn : n < 18446744073709551616) (h : ((takN n : Nat) : Int) = t) : Calls Tryd.prog 46 #[.int .u64 x] w fun e w' => e = .returned (.int .u64 t) ∧ ∃ m, w' = w.drewN m := by
  subst hx h; exact taken_calls n w hn
set_option maxHeartbeats 1600000 in
theorem sright_calls (n : Nat) (w : World) (hn : n < 18446744073709551616) (hB : TabB w) : Calls Tryd.prog 31 #[.int .u64 n] w fun e w' => e = .returned (.bool (decide (rightP n))) ∧ ∃ m, w' = w.drewN m := by
  have HN := Lib.hid hn
  have HB := Lib.hid hB
  have hc := clsN_eq n
  have ht := takN_eq n
  have hcases : n = 0 ∨ n ≠ 0 ∧ clsN n = 1 ∨ n ≠ 0 ∧ clsN n = 2 ∨ n ≠ 0 ∧ clsN n ≠ 1 ∧ clsN n ≠ 2 := by omega
  rcases hcases with rfl | ⟨h0, h1⟩ | ⟨h0, h1⟩ | ⟨h0, h1, h2⟩
  · clear hn hB hc ht
    go_enter Tryd.func31, Tryd.ntmps31
    go_wp2_with fail
    refine (class_at _ 0 0 _ rfl HN.out rfl).mono ?_
    rintro e w' ⟨rfl, m1, rfl⟩
    go_wp2_with fail
    refine (taken_at _ 0 0 _ rfl HN.out rfl).mono ?_
    rintro e w' ⟨rfl, m2, rfl⟩
    go_wp2
    go_ret
    exact ⟨rfl, _, rfl⟩
  · have HC1 : Hid (((clsN n : Nat) : Int) = 1) := Lib.hid (by omega)
    have e0 : ((n : Int) == 0) = false := by simpa using h0
    have HCT : Hid (n / 65536 % 4 = 1) := Lib.hid (by omega)
    have htl : takN n < 65536 := by omega
    obtain ⟨t, htt⟩ : ∃ t, t = takN n := ⟨_, rfl⟩
    rw [← htt] at ht htl
    have HT : Hid (((takN n : Nat) : Int) = (t : Int)) := Lib.hid (by omega)
    have HTT := Lib.hid ht
    have e16 : (t : Int) / 65536 = 0 := by omega
    clear hn hB hc ht h0 h1 htt
    by_cases h3 : n < 262144
    · have e18 : (n : Int) / 262144 = 0 := by omega
      have ht0 : t = 0 ∨ t ≠ 0 := by omega
      have H3 := Lib.hid h3
      rcases ht0 with ht0 | ht0
      · have e1 : ((t : Int) != 0) = false := by rw [ht0]; rfl
        have HR : Hid (decide (rightP n) = false) := Lib.hid (decide_eq_false (by have := HCT.out; have := HTT.out; unfold rightP; have e := e0; simp at e; omega))
        clear ht0 h3
        go_enter Tryd.func31, Tryd.ntmps31
        go_wp2_with fail
        refine (class_at _ 1 n _ rfl HN.out HC1.out).mono ?_
        rintro e w' ⟨rfl, m1, rfl⟩
        go_wp2_with fail
        refine (taken_at _ t n _ rfl HN.out HT.out).mono ?_
        rintro e w' ⟨rfl, m2, rfl⟩
        go_wp2_with (first | (go_at_call 48; (with_reducible refine (known_at 1 true _ rfl).mono ?_); rintro e w' ⟨rfl, rfl⟩) | (go_at_call 27; (with_reducible refine (blocks_at 1 16 _ (HB.out.drewN _) rfl).mono ?_); rintro e w' ⟨rfl, rfl⟩))
        go_ret
        exact ⟨ret_bool HR.out.symm, _, rfl⟩
      · have e1 : ((t : Int) != 0) = true := by simpa using ht0
        have HR : Hid (decide (rightP n) = true) := Lib.hid (decide_eq_true (by have := HCT.out; have := HTT.out; unfold rightP; omega))
        clear ht0 h3
        go_enter Tryd.func31, Tryd.ntmps31
        go_wp2_with fail
        refine (class_at _ 1 n _ rfl HN.out HC1.out).mono ?_
        rintro e w' ⟨rfl, m1, rfl⟩
        go_wp2_with fail
        refine (taken_at _ t n _ rfl HN.out HT.out).mono ?_
        rintro e w' ⟨rfl, m2, rfl⟩
        go_wp2_with (first | (go_at_call 48; (with_reducible refine (known_at 1 true _ rfl).mono ?_); rintro e w' ⟨rfl, rfl⟩) | (go_at_call 27; (with_reducible refine (blocks_at 1 16 _ (HB.out.drewN _) rfl).mono ?_); rintro e w' ⟨rfl, rfl⟩))
        go_ret
        exact ⟨ret_bool HR.out.symm, _, rfl⟩
    · have e18 : ((n : Int) / 262144 == 0) = false := by rw [beq_eq_false_iff_ne]; omega
      have ht0 : t = 0 ∨ t ≠ 0 := by omega
      have HR : Hid (decide (rightP n) = false) := Lib.hid (decide_eq_false (by unfold rightP; omega))
      rcases ht0 with ht0 | ht0
      · have e1 : ((t : Int) != 0) = false := by rw [ht0]; rfl
        clear ht0
        go_enter Tryd.func31, Tryd.ntmps31
        go_wp2_with fail
        refine (class_at _ 1 n _ rfl HN.out HC1.out).mono ?_
        rintro e w' ⟨rfl, m1, rfl⟩
        go_wp2_with fail
        refine (taken_at _ t n _ rfl HN.out HT.out).mono ?_
        rintro e w' ⟨rfl, m2, rfl⟩
        go_wp2_with (first | (go_at_call 48; (with_reducible refine (known_at 1 true _ rfl).mono ?_); rintro e w' ⟨rfl, rfl⟩) | (go_at_call 27; (with_reducible refine (blocks_at 1 16 _ (HB.out.drewN _) rfl).mono ?_); rintro e w' ⟨rfl, rfl⟩))
        go_ret
        exact ⟨ret_bool HR.out.symm, _, rfl⟩
      · have e1 : ((t : Int) != 0) = true := by simpa using ht0
        clear ht0
        go_enter Tryd.func31, Tryd.ntmps31
        go_wp2_with fail
        refine (class_at _ 1 n _ rfl HN.out HC1.out).mono ?_
        rintro e w' ⟨rfl, m1, rfl⟩
        go_wp2_with fail
        refine (taken_at _ t n _ rfl HN.out HT.out).mono ?_
        rintro e w' ⟨rfl, m2, rfl⟩
        go_wp2_with (first | (go_at_call 48; (with_reducible refine (known_at 1 true _ rfl).mono ?_); rintro e w' ⟨rfl, rfl⟩) | (go_at_call 27; (with_reducible refine (blocks_at 1 16 _ (HB.out.drewN _) rfl).mono ?_); rintro e w' ⟨rfl, rfl⟩))
        go_ret
        exact ⟨ret_bool HR.out.symm, _, rfl⟩
  · have HC1 : Hid (((clsN n : Nat) : Int) = 2) := Lib.hid (by omega)
    have e0 : ((n : Int) == 0) = false := by simpa using h0
    have HCT : Hid (n / 65536 % 4 = 2) := Lib.hid (by omega)
    have htl : takN n < 65536 := by omega
    obtain ⟨t, htt⟩ : ∃ t, t = takN n := ⟨_, rfl⟩
    rw [← htt] at ht htl
    have HT : Hid (((takN n : Nat) : Int) = (t : Int)) := Lib.hid (by omega)
    have HTT := Lib.hid ht
    have hcs : (t = 0) ∨ (t ≠ 0 ∧ t < 16 ∧ n < 262144) ∨ (t ≠ 0 ∧ t < 16 ∧ ¬ n < 262144) ∨ (t ≠ 0 ∧ ¬ t < 16) := by omega
    clear hn hB hc ht h1 htt
    rcases hcs with h3 | ⟨h3, h4, h5⟩ | ⟨h3, h4, h5⟩ | ⟨h3, h4⟩
    · have e1 : ((t : Int) != 0) = false := by rw [h3]; rfl
      have HR : Hid (decide (rightP n) = false) := Lib.hid (decide_eq_false (by have := HCT.out; have := HTT.out; unfold rightP; omega))
      clear h0 h3
      go_enter Tryd.func31, Tryd.ntmps31
      go_wp2_with fail
      refine (class_at _ 2 n _ rfl HN.out HC1.out).mono ?_
      rintro e w' ⟨rfl, m1, rfl⟩
      go_wp2_with fail
      refine (taken_at _ t n _ rfl HN.out HT.out).mono ?_
      rintro e w' ⟨rfl, m2, rfl⟩
      go_wp2_with (first | (go_at_call 48; (with_reducible refine (known_at 2 true _ rfl).mono ?_); rintro e w' ⟨rfl, rfl⟩) | (go_at_call 27; (with_reducible refine (blocks_at 2 4 _ (HB.out.drewN _) rfl).mono ?_); rintro e w' ⟨rfl, rfl⟩))
      go_ret
      exact ⟨ret_bool HR.out.symm, _, rfl⟩
    · have e1 : ((t : Int) != 0) = true := by simpa using h3
      have e16 : (t : Int) / 16 = 0 := by omega
      have e18 : (n : Int) / 262144 = 0 := by omega
      have HR : Hid (decide (rightP n) = true) := Lib.hid (decide_eq_true (by have := HCT.out; have := HTT.out; unfold rightP; omega))
      clear h0 h3
      go_enter Tryd.func31, Tryd.ntmps31
      go_wp2_with fail
      refine (class_at _ 2 n _ rfl HN.out HC1.out).mono ?_
      rintro e w' ⟨rfl, m1, rfl⟩
      go_wp2_with fail
      refine (taken_at _ t n _ rfl HN.out HT.out).mono ?_
      rintro e w' ⟨rfl, m2, rfl⟩
      go_wp2_with (first | (go_at_call 48; (with_reducible refine (known_at 2 true _ rfl).mono ?_); rintro e w' ⟨rfl, rfl⟩) | (go_at_call 27; (with_reducible refine (blocks_at 2 4 _ (HB.out.drewN _) rfl).mono ?_); rintro e w' ⟨rfl, rfl⟩))
      go_ret
      exact ⟨ret_bool HR.out.symm, _, rfl⟩
    · have e1 : ((t : Int) != 0) = true := by simpa using h3
      have e16 : (t : Int) / 16 = 0 := by omega
      have e18 : ((n : Int) / 262144 == 0) = false := by rw [beq_eq_false_iff_ne]; omega
      have HR : Hid (decide (rightP n) = false) := Lib.hid (decide_eq_false (by unfold rightP; omega))
      clear h0 h3
      go_enter Tryd.func31, Tryd.ntmps31
      go_wp2_with fail
      refine (class_at _ 2 n _ rfl HN.out HC1.out).mono ?_
      rintro e w' ⟨rfl, m1, rfl⟩
      go_wp2_with fail
      refine (taken_at _ t n _ rfl HN.out HT.out).mono ?_
      rintro e w' ⟨rfl, m2, rfl⟩
      go_wp2_with (first | (go_at_call 48; (with_reducible refine (known_at 2 true _ rfl).mono ?_); rintro e w' ⟨rfl, rfl⟩) | (go_at_call 27; (with_reducible refine (blocks_at 2 4 _ (HB.out.drewN _) rfl).mono ?_); rintro e w' ⟨rfl, rfl⟩))
      go_ret
      exact ⟨ret_bool HR.out.symm, _, rfl⟩
    · have e1 : ((t : Int) != 0) = true := by simpa using h3
      have e16 : ((t : Int) / 16 == 0) = false := by rw [beq_eq_false_iff_ne]; omega
      have HR : Hid (decide (rightP n) = false) := Lib.hid (decide_eq_false (by have := HCT.out; have := HTT.out; unfold rightP; omega))
      clear h0 h3
      go_enter Tryd.func31, Tryd.ntmps31
      go_wp2_with fail
      refine (class_at _ 2 n _ rfl HN.out HC1.out).mono ?_
      rintro e w' ⟨rfl, m1, rfl⟩
      go_wp2_with fail
      refine (taken_at _ t n _ rfl HN.out HT.out).mono ?_
      rintro e w' ⟨rfl, m2, rfl⟩
      go_wp2_with (first | (go_at_call 48; (with_reducible refine (known_at 2 true _ rfl).mono ?_); rintro e w' ⟨rfl, rfl⟩) | (go_at_call 27; (with_reducible refine (blocks_at 2 4 _ (HB.out.drewN _) rfl).mono ?_); rintro e w' ⟨rfl, rfl⟩))
      go_ret
      exact ⟨ret_bool HR.out.symm, _, rfl⟩
  · have e0 : ((n : Int) == 0) = false := by simpa using h0
    have HR : Hid (decide (rightP n) = false) := Lib.hid (decide_eq_false (by unfold rightP; omega))
    have HK : Hid (decide (knownP ((clsN n : Nat) : Int)) = false) := Lib.hid (decide_eq_false (by unfold knownP; omega))
    have hlt : clsN n < 4 := by omega
    obtain ⟨c, hcc⟩ : ∃ c, c = clsN n := ⟨_, rfl⟩
    rw [← hcc] at HK hlt
    have HC1 : Hid (((clsN n : Nat) : Int) = (c : Int)) := Lib.hid (by omega)
    clear hn hB hc ht h0 h1 h2 hcc
    go_enter Tryd.func31, Tryd.ntmps31
    go_wp2_with fail
    refine (class_at _ c n _ rfl HN.out HC1.out).mono ?_
    rintro e w' ⟨rfl, m1, rfl⟩
    go_wp2_with fail
    refine (taken_at _ _ n _ rfl HN.out rfl).mono ?_
    rintro e w' ⟨rfl, m2, rfl⟩
    go_wp2_with (go_at_call 48; (with_reducible refine (known_at c false _ HK.out).mono ?_); rintro e w' ⟨rfl, rfl⟩)
    go_ret
    exact ⟨ret_bool HR.out.symm, _, rfl⟩
theorem sright_at (x : Int) (n : Nat) (b : Bool) (w : World) (hx : x = n) (hn : n < 18446744073709551616) (hB : TabB w) (h : decide (rightP n) = b) : Calls Tryd.prog 31 #[.int .u64 x] w fun e w' => e = .returned (.bool b) ∧ ∃ m, w' = w.drewN m := by
  subst hx h; exact sright_calls n w hn hB
def clsS (n : Nat) : Int := if rightP n then ((clsN n : Nat) : Int) else 0
theorem sclass_calls (n : Nat) (w : World) (hn : n < 18446744073709551616) (hB : TabB w) : Calls Tryd.prog 32 #[.int .u64 n] w fun e w' => e = .returned (.int .i64 (clsS n)) ∧ ∃ m, w' = w.drewN m := by
  have HN := Lib.hid hn
  have HB := Lib.hid hB
  clear hn hB
  by_cases h : rightP n
  · have HR := Lib.hid (decide_eq_true h)
    have HC : Hid (((clsN n : Nat) : Int) = clsS n) := Lib.hid (by unfold clsS; rw [if_pos h])
    generalize clsS n = c at *
    clear h
    go_enter Tryd.func32, Tryd.ntmps32
    go_wp2_with fail
    refine (sright_at _ n _ _ rfl HN.out HB.out HR.out).mono ?_
    rintro e w' ⟨rfl, m1, rfl⟩
    go_wp2_with fail
    refine (class_at _ c n _ rfl HN.out HC.out).mono ?_
    rintro e w' ⟨rfl, m2, rfl⟩
    go_wp2
    go_ret
    exact ⟨rfl, _, rfl⟩
  · have HR := Lib.hid (decide_eq_false h)
    have HC : Hid ((0 : Int) = clsS n) := Lib.hid (by unfold clsS; rw [if_neg h])
    generalize clsS n = c at *
    clear h
    go_enter Tryd.func32, Tryd.ntmps32
    go_wp2_with fail
    refine (sright_at _ n _ _ rfl HN.out HB.out HR.out).mono ?_
    rintro e w' ⟨rfl, m1, rfl⟩
    go_wp2
    go_ret
    exact ⟨ret_int HC.out, _, rfl⟩
/-- a block that is taken -/
def hasB (n : Nat) (at' : Int) : Bool := decide (rightP n ∧ 0 ≤ at' ∧ at' < 16) && n.testBit at'.toNat
theorem field_one (n k : Nat) : fieldN n k 1 = if n.testBit k then 1 else 0 := by
  have h := field_step n k 0
  rw [Nat.zero_add] at h
  rw [h]
  unfold fieldN
  simp [Nat.mod_one]
theorem has_calls (n : Nat) (at' : Int) (w : World) (hn : n < 18446744073709551616) (hB : TabB w) : Calls Tryd.prog 29 #[.int .u64 n, .int .i64 at'] w fun e w' => e = .returned (.bool (hasB n at')) ∧ ∃ m, w' = w.drewN m := by
  have HN := Lib.hid hn
  have HB := Lib.hid hB
  clear hn hB
  have hcs : ¬ rightP n ∨ (rightP n ∧ at' < 0) ∨ (rightP n ∧ 16 ≤ at') ∨ (rightP n ∧ 0 ≤ at' ∧ at' < 16) := by
    by_cases h : rightP n
    · simp only [h, true_and, not_true_eq_false, false_or]; omega
    · exact .inl h
  rcases hcs with h | ⟨h, h2⟩ | ⟨h, h2⟩ | ⟨h, h2, h3⟩
  · have HR := Lib.hid (decide_eq_false h)
    have HH : Hid (hasB n at' = false) := Lib.hid (by unfold hasB; simp [h])
    generalize hasB n at' = b at *
    clear h
    go_enter Tryd.func29, Tryd.ntmps29
    go_wp2_with fail
    refine (sright_at _ n _ _ rfl HN.out HB.out HR.out).mono ?_
    rintro e w' ⟨rfl, m1, rfl⟩
    go_wp2
    go_ret
    exact ⟨ret_bool HH.out.symm, _, rfl⟩
  · have HR := Lib.hid (decide_eq_true h)
    have HH : Hid (hasB n at' = false) := Lib.hid (by unfold hasB; rw [decide_eq_false (by omega)]; rfl)
    generalize hasB n at' = b at *
    clear h
    go_enter Tryd.func29, Tryd.ntmps29
    go_wp2_with fail
    refine (sright_at _ n _ _ rfl HN.out HB.out HR.out).mono ?_
    rintro e w' ⟨rfl, m1, rfl⟩
    go_wp2
    go_ret
    exact ⟨ret_bool HH.out.symm, _, rfl⟩
  · have HR := Lib.hid (decide_eq_true h)
    have HH : Hid (hasB n at' = false) := Lib.hid (by unfold hasB; rw [decide_eq_false (by omega)]; rfl)
    generalize hasB n at' = b at *
    clear h
    go_enter Tryd.func29, Tryd.ntmps29
    go_wp2_with fail
    refine (sright_at _ n _ _ rfl HN.out HB.out HR.out).mono ?_
    rintro e w' ⟨rfl, m1, rfl⟩
    go_wp2
    go_ret
    exact ⟨ret_bool HH.out.symm, _, rfl⟩
  · have HR := Lib.hid (decide_eq_true h)
    obtain ⟨k, rfl⟩ := Int.eq_ofNat_of_zero_le h2
    have HH : Hid (n.testBit k = hasB n (k : Int)) := Lib.hid (by unfold hasB; rw [decide_eq_true ⟨h, h2, h3⟩]; simp)
    have HF : Hid (fieldN n (clampN (k : Int)) (clampN 1) = if n.testBit k then 1 else 0) := Lib.hid (by rw [clampN_mid k (by omega)]; exact field_one n k)
    generalize hasB n (k : Int) = b at *
    clear h
    cases hb : n.testBit k
    all_goals
      rw [hb] at HF HH
      simp only [Bool.false_eq_true, if_true, if_false] at HF
      clear hb
      go_enter Tryd.func29, Tryd.ntmps29
      go_wp2_with fail
      refine (sright_at _ n _ _ rfl HN.out HB.out HR.out).mono ?_
      rintro e w' ⟨rfl, m1, rfl⟩
      go_wp2_with (go_at_call 14; refine (field_at _ _ _ n _ _ rfl HN.out HF.out).mono ?_; rintro e w' ⟨rfl, m2, rfl⟩)
      go_ret
      exact ⟨ret_bool HH.out, _, rfl⟩
theorem has_at (x at' : Int) (n : Nat) (b : Bool) (w : World) (hx : x = n) (hn : n < 18446744073709551616) (hB : TabB w) (h : hasB n at' = b) : Calls Tryd.prog 29 #[.int .u64 x, .int .i64 at'] w fun e w' => e = .returned (.bool b) ∧ ∃ m, w' = w.drewN m := by
  subst hx h; exact has_calls n at' w hn hB
/-- may blocks of a class be taken -/
def openP (n : Nat) (c : Int) : Prop := rightP n ∧ knownP c ∧ (n = 0 ∨ ((clsN n : Nat) : Int) = c)
instance (n : Nat) (c : Int) : Decidable (openP n c) := by unfold openP; infer_instance
set_option maxHeartbeats 800000 in
theorem open_calls (n : Nat) (c : Int) (w : World) (hn : n < 18446744073709551616) (hB : TabB w) : Calls Tryd.prog 44 #[.int .u64 n, .int .i64 c] w fun e w' => e = .returned (.bool (decide (openP n c))) ∧ ∃ m, w' = w.drewN m := by
  have HN := Lib.hid hn
  have HB := Lib.hid hB
  clear hn hB
  have hcs : ¬ rightP n ∨ (rightP n ∧ ¬ knownP c) ∨ (rightP n ∧ knownP c ∧ n = 0) ∨ (rightP n ∧ knownP c ∧ n ≠ 0) := by
    by_cases h : rightP n
    · by_cases h2 : knownP c
      · by_cases h3 : n = 0
        · exact .inr (.inr (.inl ⟨h, h2, h3⟩))
        · exact .inr (.inr (.inr ⟨h, h2, h3⟩))
      · exact .inr (.inl ⟨h, h2⟩)
    · exact .inl h
  rcases hcs with h | ⟨h, h2⟩ | ⟨h, h2, rfl⟩ | ⟨h, h2, h3⟩
  · have HR := Lib.hid (decide_eq_false h)
    have HO : Hid (decide (openP n c) = false) := Lib.hid (decide_eq_false (fun k => h k.1))
    generalize decide (openP n c) = b at *
    clear h
    go_enter Tryd.func44, Tryd.ntmps44
    go_wp2_with (go_at_call 31; refine (sright_at _ n _ _ rfl HN.out HB.out HR.out).mono ?_; rintro e w' ⟨rfl, m1, rfl⟩)
    go_ret
    exact ⟨ret_bool HO.out.symm, _, rfl⟩
  · have HR := Lib.hid (decide_eq_true h)
    have HK := Lib.hid (decide_eq_false h2)
    have HO : Hid (decide (openP n c) = false) := Lib.hid (decide_eq_false (fun k => h2 k.2.1))
    generalize decide (openP n c) = b at *
    clear h h2
    go_enter Tryd.func44, Tryd.ntmps44
    go_wp2_with fail
    refine (sright_at _ n _ _ rfl HN.out HB.out HR.out).mono ?_
    rintro e w' ⟨rfl, m1, rfl⟩
    go_wp2_with (go_at_call 48; refine (known_at _ _ _ HK.out).mono ?_; rintro e w' ⟨rfl, rfl⟩)
    go_ret
    exact ⟨ret_bool HO.out.symm, _, rfl⟩
  · have HR := Lib.hid (decide_eq_true h)
    have HK := Lib.hid (decide_eq_true h2)
    have HO : Hid (decide (openP 0 c) = true) := Lib.hid (decide_eq_true ⟨h, h2, .inl rfl⟩)
    generalize decide (openP 0 c) = b at *
    clear h h2
    go_enter Tryd.func44, Tryd.ntmps44
    go_wp2_with fail
    refine (sright_at _ 0 _ _ rfl HN.out HB.out HR.out).mono ?_
    rintro e w' ⟨rfl, m1, rfl⟩
    go_wp2_with (go_at_call 48; refine (known_at _ _ _ HK.out).mono ?_; rintro e w' ⟨rfl, rfl⟩)
    go_ret
    exact ⟨ret_bool HO.out.symm, _, rfl⟩
  · have HR := Lib.hid (decide_eq_true h)
    have HK := Lib.hid (decide_eq_true h2)
    have e0 : ((n : Int) == 0) = false := by simpa using h3
    obtain ⟨k, hk⟩ : ∃ k : Int, ((clsN n : Nat) : Int) = k := ⟨_, rfl⟩
    have HO : Hid ((k == c) = decide (openP n c)) := Lib.hid (by
      rw [← hk, Bool.eq_iff_iff, beq_iff_eq, decide_eq_true_eq]
      exact ⟨fun e => ⟨h, h2, .inr e⟩, fun ⟨_, _, e⟩ => e.resolve_left h3⟩)
    have HC := Lib.hid hk
    generalize decide (openP n c) = b at *
    clear h h2 h3 hk
    go_enter Tryd.func44, Tryd.ntmps44
    go_wp2_with fail
    refine (sright_at _ n _ _ rfl HN.out HB.out HR.out).mono ?_
    rintro e w' ⟨rfl, m1, rfl⟩
    go_wp2_with (first | (go_at_call 48; refine (known_at _ _ _ HK.out).mono ?_; rintro e w' ⟨rfl, rfl⟩) | (go_at_call 49; refine (class_at _ k n _ rfl HN.out HC.out).mono ?_; rintro e w' ⟨rfl, m2, rfl⟩))
    go_ret
    exact ⟨ret_bool HO.out, _, rfl⟩
theorem open_at (x c : Int) (n : Nat) (b : Bool) (w : World) (hx : x = n) (hn : n < 18446744073709551616) (hB : TabB w) (h : decide (openP n c) = b) : Calls Tryd.prog 44 #[.int .u64 x, .int .i64 c] w fun e w' => e = .returned (.bool b) ∧ ∃ m, w' = w.drewN m := by
  subst hx h; exact open_calls n c w hn hB
def nextS (n : Nat) (c : Int) : Int := if openP n c then lowS (takN n) (blkN c) else -1
theorem next_calls (n : Nat) (c : Int) (w : World) (hn : n < 18446744073709551616) (hB : TabB w) (hZ : TabZ w) : Calls Tryd.prog 28 #[.int .u64 n, .int .i64 c] w fun e w' => e = .returned (.int .i64 (nextS n c)) ∧ ∃ m, w' = w.drewN m := by
  have HN := Lib.hid hn
  have HB := Lib.hid hB
  have HZ := Lib.hid hZ
  have HTL : Hid (takN n < 18446744073709551616) := Lib.hid (by rw [takN_eq]; omega)
  clear hn hB hZ
  by_cases h : openP n c
  · have HO := Lib.hid (decide_eq_true h)
    have HX : Hid (lowS (takN n) (blkN c) = nextS n c) := Lib.hid (by unfold nextS; rw [if_pos h])
    obtain ⟨b, hb⟩ : ∃ b, blkN c = b := ⟨_, rfl⟩
    have HBL := Lib.hid hb
    rw [hb] at HX
    clear h hb
    generalize nextS n c = r at *
    go_enter Tryd.func28, Tryd.ntmps28
    go_wp2_with fail
    refine (open_at _ _ n _ _ rfl HN.out HB.out HO.out).mono ?_
    rintro e w' ⟨rfl, m1, rfl⟩
    go_wp2_with fail
    refine (taken_at _ _ n _ rfl HN.out rfl).mono ?_
    rintro e w' ⟨rfl, m2, rfl⟩
    go_wp2_with fail
    refine (blocks_at _ b _ (HB.out.drewN _) HBL.out).mono ?_
    rintro e w' ⟨rfl, rfl⟩
    go_wp2_with fail
    refine (low_at _ _ r (takN n) _ rfl HTL.out (HZ.out.drewN _) HX.out).mono ?_
    rintro e w' ⟨rfl, rfl⟩
    go_wp2
    go_ret
    exact ⟨rfl, _, rfl⟩
  · have HO := Lib.hid (decide_eq_false h)
    have HX : Hid (-1 = nextS n c) := Lib.hid (by unfold nextS; rw [if_neg h])
    generalize nextS n c = r at *
    clear h
    go_enter Tryd.func28, Tryd.ntmps28
    go_wp2_with fail
    refine (open_at _ _ n _ _ rfl HN.out HB.out HO.out).mono ?_
    rintro e w' ⟨rfl, m1, rfl⟩
    go_wp2
    go_ret
    exact ⟨ret_int HX.out, _, rfl⟩
theorem next_at (x c r : Int) (n : Nat) (w : World) (hx : x = n) (hn : n < 18446744073709551616) (hB : TabB w) (hZ : TabZ w) (h : nextS n c = r) : Calls Tryd.prog 28 #[.int .u64 x, .int .i64 c] w fun e w' => e = .returned (.int .i64 r) ∧ ∃ m, w' = w.drewN m := by
  subst hx h; exact next_calls n c w hn hB hZ
/-- a word with a block taken -/
def takeP (n : Nat) (c at' : Int) : Prop := openP n c ∧ 0 ≤ at' ∧ at' < blkN c ∧ hasB n at' = false
instance (n : Nat) (c at' : Int) : Decidable (takeP n c at') := by unfold takeP; infer_instance
def takeN (n : Nat) (c at' : Int) : Nat := if takeP n c at' then withN (withN n (clampN at') (clampN 1) 1) (clampN 16) (clampN 2) c.toNat else n
set_option maxHeartbeats 800000 in
theorem take_calls (n : Nat) (c at' : Int) (w : World) (hn : n < 18446744073709551616) (hB : TabB w) : Calls Tryd.prog 23 #[.int .u64 n, .int .i64 c, .int .i64 at'] w fun e w' => e = .returned (.tuple #[.int .u64 ((takeN n c at' : Nat) : Int), .bool (decide (takeP n c at'))]) ∧ ∃ m, w' = w.drewN m := by
  have HN := Lib.hid hn
  have HB := Lib.hid hB
  clear hn hB
  have hcs : ¬ openP n c ∨ (openP n c ∧ at' < 0) ∨ (openP n c ∧ 0 ≤ at' ∧ blkN c ≤ at') ∨ (openP n c ∧ 0 ≤ at' ∧ at' < blkN c ∧ hasB n at' = true) ∨ (openP n c ∧ 0 ≤ at' ∧ at' < blkN c ∧ hasB n at' = false) := by
    by_cases h : openP n c <;> cases h2 : hasB n at' <;> simp [h] <;> omega
  obtain ⟨b, hb⟩ : ∃ b, blkN c = b := ⟨_, rfl⟩
  have HBL := Lib.hid hb
  rw [hb] at hcs
  rcases hcs with h | ⟨h, h2⟩ | ⟨h, h2, h3⟩ | ⟨h, h2, h3, h4⟩ | ⟨h, h2, h3, h4⟩
  · have HO := Lib.hid (decide_eq_false h)
    have hno : ¬ takeP n c at' := fun k => h k.1
    have hx : takeN n c at' = n := by unfold takeN; rw [if_neg hno]
    rw [decide_eq_false hno, hx]
    clear h hno hx hb
    go_enter Tryd.func23, Tryd.ntmps23
    go_wp2_with fail
    refine (open_at _ _ n _ _ rfl HN.out HB.out HO.out).mono ?_
    rintro e w' ⟨rfl, m1, rfl⟩
    go_wp2
    go_ret2
    exact ⟨rfl, _, rfl⟩
  · have HO := Lib.hid (decide_eq_true h)
    have hno : ¬ takeP n c at' := fun k => by have := k.2.1; omega
    have hx : takeN n c at' = n := by unfold takeN; rw [if_neg hno]
    rw [decide_eq_false hno, hx]
    clear h hno hx hb
    go_enter Tryd.func23, Tryd.ntmps23
    go_wp2_with fail
    refine (open_at _ _ n _ _ rfl HN.out HB.out HO.out).mono ?_
    rintro e w' ⟨rfl, m1, rfl⟩
    go_wp2
    go_ret2
    exact ⟨rfl, _, rfl⟩
  · have HO := Lib.hid (decide_eq_true h)
    have hno : ¬ takeP n c at' := fun k => by have := k.2.2.1; omega
    have hx : takeN n c at' = n := by unfold takeN; rw [if_neg hno]
    rw [decide_eq_false hno, hx]
    clear h hno hx hb
    go_enter Tryd.func23, Tryd.ntmps23
    go_wp2_with fail
    refine (open_at _ _ n _ _ rfl HN.out HB.out HO.out).mono ?_
    rintro e w' ⟨rfl, m1, rfl⟩
    go_wp2_with (go_at_call 27; refine (blocks_at _ b _ (HB.out.drewN _) HBL.out).mono ?_; rintro e w' ⟨rfl, rfl⟩)
    go_ret2
    exact ⟨rfl, _, rfl⟩
  · have HO := Lib.hid (decide_eq_true h)
    have hno : ¬ takeP n c at' := fun k => by have := k.2.2.2; rw [h4] at this; simp at this
    have H4 := Lib.hid h4
    have hx : takeN n c at' = n := by unfold takeN; rw [if_neg hno]
    rw [decide_eq_false hno, hx]
    clear h hno hx hb h4
    go_enter Tryd.func23, Tryd.ntmps23
    go_wp2_with fail
    refine (open_at _ _ n _ _ rfl HN.out HB.out HO.out).mono ?_
    rintro e w' ⟨rfl, m1, rfl⟩
    go_wp2_with (first | (go_at_call 27; refine (blocks_at _ b _ (HB.out.drewN _) HBL.out).mono ?_; rintro e w' ⟨rfl, rfl⟩) | (go_at_call 29; refine (has_at _ _ n _ _ rfl HN.out (HB.out.drewN _) H4.out).mono ?_; rintro e w' ⟨rfl, m2, rfl⟩))
    go_ret2
    exact ⟨rfl, _, rfl⟩
  · have HO := Lib.hid (decide_eq_true h)
    have hyes : takeP n c at' := ⟨h, h2, by omega, h4⟩
    have H4 := Lib.hid h4
    have hk : knownP c := h.2.1
    obtain ⟨cn, rfl⟩ : ∃ cn : Nat, c = cn := ⟨c.toNat, by unfold knownP at hk; omega⟩
    have hcn : cn ≤ 2 := by unfold knownP at hk; omega
    obtain ⟨r, hr⟩ : ∃ r, withN n (clampN at') (clampN 1) 1 = r := ⟨_, rfl⟩
    have HR := Lib.hid hr
    have HRL : Hid (r < 18446744073709551616) := Lib.hid (by rw [← hr]; exact with_lt _ _ _ _)
    have HX : Hid (withN r (clampN 16) (clampN 2) cn = takeN n (cn : Int) at') := Lib.hid (by unfold takeN; rw [if_pos hyes, hr]; rfl)
    have HCN : Hid (cn < 18446744073709551616) := Lib.hid (by omega)
    have H1 : Hid ((1 : Nat) < 18446744073709551616) := Lib.hid (by omega)
    rw [decide_eq_true hyes]
    generalize takeN n (cn : Int) at' = x at *
    clear h h4 hb hyes hk hr
    go_enter Tryd.func23, Tryd.ntmps23
    go_wp2_with fail
    refine (open_at _ _ n _ _ rfl HN.out HB.out HO.out).mono ?_
    rintro e w' ⟨rfl, m1, rfl⟩
    go_wp2_with fail
    refine (blocks_at _ b _ (HB.out.drewN _) HBL.out).mono ?_
    rintro e w' ⟨rfl, rfl⟩
    go_wp2_with fail
    refine (has_at _ _ n _ _ rfl HN.out (HB.out.drewN _) H4.out).mono ?_
    rintro e w' ⟨rfl, m2, rfl⟩
    go_wp2_with fail
    refine (with_at _ _ _ _ n 1 r _ rfl rfl HN.out H1.out HR.out).mono ?_
    rintro e w' ⟨rfl, m3, rfl⟩
    go_wp2_with fail
    refine (with_at _ _ _ _ r cn x _ rfl rfl HRL.out HCN.out HX.out).mono ?_
    rintro e w' ⟨rfl, m4, rfl⟩
    go_wp2
    go_ret2
    exact ⟨rfl, _, rfl⟩
theorem take_at (x c at' : Int) (n : Nat) (r : Nat) (b : Bool) (w : World) (hx : x = n) (hn : n < 18446744073709551616) (hB : TabB w) (h1 : takeN n c at' = r) (h2 : decide (takeP n c at') = b) : Calls Tryd.prog 23 #[.int .u64 x, .int .i64 c, .int .i64 at'] w fun e w' => e = .returned (.tuple #[.int .u64 (r : Int), .bool b]) ∧ ∃ m, w' = w.drewN m := by
  subst hx h1 h2; exact take_calls n c at' w hn hB
/-- a word with a block not taken any more -/
def dropN (n : Nat) (at' : Int) : Nat := if hasB n at' = true then (if takN (withN n (clampN at') (clampN 1) 0) = 0 then 0 else withN n (clampN at') (clampN 1) 0) else n
set_option maxHeartbeats 800000 in
theorem drop_calls (n : Nat) (at' : Int) (w : World) (hn : n < 18446744073709551616) (hB : TabB w) : Calls Tryd.prog 25 #[.int .u64 n, .int .i64 at'] w fun e w' => e = .returned (.tuple #[.int .u64 ((dropN n at' : Nat) : Int), .bool (hasB n at')]) ∧ ∃ m, w' = w.drewN m := by
  have HN := Lib.hid hn
  have HB := Lib.hid hB
  clear hn hB
  cases h : hasB n at'
  · have HH := Lib.hid h
    have hd : dropN n at' = n := by unfold dropN; rw [h]; rfl
    rw [hd]
    clear h hd
    go_enter Tryd.func25, Tryd.ntmps25
    go_wp2_with fail
    refine (has_at _ _ n _ _ rfl HN.out HB.out HH.out).mono ?_
    rintro e w' ⟨rfl, m1, rfl⟩
    go_wp2
    go_ret2
    exact ⟨rfl, _, rfl⟩
  · have HH := Lib.hid h
    obtain ⟨r, hr⟩ : ∃ r, withN n (clampN at') (clampN 1) 0 = r := ⟨_, rfl⟩
    have HR := Lib.hid hr
    have HRL : Hid (r < 18446744073709551616) := Lib.hid (by rw [← hr]; exact with_lt _ _ _ _)
    have H0 : Hid ((0 : Nat) < 18446744073709551616) := Lib.hid (by omega)
    have hd : dropN n at' = if takN r = 0 then 0 else r := by unfold dropN; rw [h, hr]; rfl
    rw [hd]
    obtain ⟨t, ht⟩ : ∃ t, takN r = t := ⟨_, rfl⟩
    have HT : Hid (((takN r : Nat) : Int) = (t : Int)) := Lib.hid (by rw [ht])
    rw [ht]
    clear h hd hr ht
    by_cases h0 : t = 0
    · rw [if_pos h0]
      have e0 : ((t : Int) == 0) = true := by simpa using h0
      clear h0
      go_enter Tryd.func25, Tryd.ntmps25
      go_wp2_with fail
      refine (has_at _ _ n _ _ rfl HN.out HB.out HH.out).mono ?_
      rintro e w' ⟨rfl, m1, rfl⟩
      go_wp2_with fail
      refine (with_at _ _ _ _ n 0 r _ rfl rfl HN.out H0.out HR.out).mono ?_
      rintro e w' ⟨rfl, m3, rfl⟩
      go_wp2_with fail
      refine (taken_at _ t r _ rfl HRL.out HT.out).mono ?_
      rintro e w' ⟨rfl, m2, rfl⟩
      go_wp2
      go_ret2
      exact ⟨rfl, _, rfl⟩
    · rw [if_neg h0]
      have e0 : ((t : Int) == 0) = false := by simpa using h0
      clear h0
      go_enter Tryd.func25, Tryd.ntmps25
      go_wp2_with fail
      refine (has_at _ _ n _ _ rfl HN.out HB.out HH.out).mono ?_
      rintro e w' ⟨rfl, m1, rfl⟩
      go_wp2_with fail
      refine (with_at _ _ _ _ n 0 r _ rfl rfl HN.out H0.out HR.out).mono ?_
      rintro e w' ⟨rfl, m3, rfl⟩
      go_wp2_with fail
      refine (taken_at _ t r _ rfl HRL.out HT.out).mono ?_
      rintro e w' ⟨rfl, m2, rfl⟩
      go_wp2
      go_ret2
      exact ⟨rfl, _, rfl⟩
theorem drop_at (x at' : Int) (n r : Nat) (b : Bool) (w : World) (hx : x = n) (hn : n < 18446744073709551616) (hB : TabB w) (h1 : dropN n at' = r) (h2 : hasB n at' = b) : Calls Tryd.prog 25 #[.int .u64 x, .int .i64 at'] w fun e w' => e = .returned (.tuple #[.int .u64 (r : Int), .bool b]) ∧ ∃ m, w' = w.drewN m := by
  subst hx h1 h2; exact drop_calls n at' w hn hB
/-- which blocks are taken -/
def partL (n k : Nat) : List Int := ((List.range k).filter fun i : Nat => hasB n (i : Int)).map fun i : Nat => (i : Int)
def listN (n : Nat) : List Int := partL n 16
theorem rowOfI : RowOf Tryd.prog 46 3 .i64 8 := ⟨Tryd.underlying46, by kernel_rfl⟩
theorem list_snoc (n k : Nat) : (partL n (k + 1)) = (partL n k) ++ if hasB n (k : Int) then [(k : Int)] else [] := by
  unfold partL
  rw [List.range_succ, List.filter_append, List.map_append]
  congr 1
  cases h : hasB n (k : Int) <;> simp [h]
theorem part_len (n k : Nat) : ((partL n k)).length ≤ k := by
  unfold partL
  rw [List.length_map]
  have := List.length_filter_le (fun i : Nat => hasB n (i : Int)) (List.range k)
  simpa using this
theorem listN_len (n : Nat) : (listN n).length ≤ 16 := part_len n 16
theorem wf_i64s {x : Int} (h0 : 0 ≤ x) (h : x ≤ 1000000000) : (Lit.int .i64 x).wf = true := by
  simp [Lit.wf, IntKind.min, IntKind.max, IntKind.signed, IntKind.bits]
  omega
set_option maxHeartbeats 800000 in
theorem list_calls (n : Nat) (w : World) (hn : n < 18446744073709551616) (hB : TabB w) : Calls Tryd.prog 30 #[.int .u64 n] w fun e w' => ∃ v, e = .returned v ∧ Own .i64 3 w' w.heap.size v (listN n) ∧ Below w.heap.size w w' := by
  have HN := Lib.hid hn
  have HB := Lib.hid hB
  have HX : Hid ((partL n 16) = listN n) := Lib.hid rfl
  clear hn hB
  go_enter Tryd.func30, Tryd.ntmps30
  go_wp2
  go_loopw [3, 5] (fun v i wr => ∃ k : Nat, k ≤ 16 ∧ i = .int .i64 k ∧ Own .i64 3 wr w.heap.size v (partL n k) ∧ Below w.heap.size w wr) (fun _ i _ => 16 - (intOf i).toNat)
  case atStart => exact ⟨0, Nat.zero_le _, rfl, Own.nil_ _ _ _ _, Below.refl _ _⟩
  case round =>
    obtain ⟨k, hk, rfl, hown, hbw⟩ := hrel
    have HSN := Lib.hid (list_snoc n k)
    have HLL := Lib.hid (part_len n k)
    generalize hL : (partL n k) = L at *
    have HL := Lib.hid hL
    clear hL
    obtain ⟨a, cap, rfl⟩ := hown.slice
    have HOWN := Lib.hid hown
    have HBW := Lib.hid hbw
    have HBR := Lib.hid (HB.out.below hbw)
    clear hown hbw
    by_cases hlt : k < 16
    · cases hb : hasB n (k : Int)
      · rw [hb] at HSN
        simp only [Bool.false_eq_true, if_false, List.append_nil] at HSN
        have HH := Lib.hid hb
        clear hb
        go_wp2_with fail
        refine (has_at _ _ n _ _ rfl HN.out HBR.out HH.out).mono ?_
        rintro e w' ⟨rfl, m1, rfl⟩
        go_wp2
        go_roundw
        case rel => exact ⟨k + 1, hlt, by go_num, by rw [HSN.out]; exact HOWN.out.drewN _, below_drewN HBW.out _⟩
        case measure => simp [intOf]; omega
      · rw [hb] at HSN
        simp only [if_true] at HSN
        have HH := Lib.hid hb
        clear hb
        go_wp2_with fail
        refine (has_at _ _ n _ _ rfl HN.out HBR.out HH.out).mono ?_
        rintro e w' ⟨rfl, m1, rfl⟩
        have HNEW : Hid (Ints .i64 ((wr.drewN m1).alloc (.cells #[.int .i64 (k : Int)] 3)) (.slice (some ⟨wr.heap.size, 0, none⟩) 1 1) [(k : Int)]) := Lib.hid (Ints.ofRow (l := [(k : Int)]) (cap := 1) (heap_alloc_new (wr.drewN m1) _) (by intro q hq; rw [List.mem_singleton] at hq; subst hq; exact wf_i64s (by omega) (by omega)) (by simp) (by simp) (by intro j hj; simp at hj; subst hj; rfl))
        go_wp2_with (at_builtin; refine wpList_grow rfl (.tmp 11) (.tmp 13) 46 rfl rowOfI w.heap.size _ L rfl ((HOWN.out.drewN _).alloc _) _ [(k : Int)] rfl HNEW.out 17 ?c2 ⟨by simp [maxLen], by omega⟩ ?c1 ?_; (case c1 => (have := HBW.out.size; simp; omega)); (case c2 => (have := HLL.out; simp; omega)); intro A4 c4 w4 hown4 hb4)
        go_roundw
        case rel => exact ⟨k + 1, hlt, by go_num, by rw [HSN.out]; exact hown4, ((below_drewN HBW.out _).alloc HBW.out.size _).trans hb4⟩
        case measure => simp [intOf]; omega
    · obtain rfl : k = 16 := by omega
      rw [HL.out] at HX
      have hx := HX.out
      clear hlt hk
      go_wp2
      go_ret
      exact ⟨_, rfl, by rw [← HX.out]; exact HOWN.out, HBW.out⟩
end Go.Proofs.YtkmkficnkiaajaaDoor
