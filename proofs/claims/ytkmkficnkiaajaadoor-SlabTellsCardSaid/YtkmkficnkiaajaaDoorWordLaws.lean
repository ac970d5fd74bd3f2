/- WORD: the laws' walks, of those on one word. -/
import Derived.Test.YtkmkficnkiaajaaDoorWordLow
import Derived.Test.YtkmkficnkiaajaaDoorWordMem
import Derived.Test.YtkmkficnkiaajaaDoorHeld
namespace Go.Proofs.YtkmkficnkiaajaaDoor
open Go Go.RowKit

theorem field_at (x low many : Int) (n r : Nat) (w : World) (hx : x = n) (hn : n < 18446744073709551616) (hr : fieldN n (clampN low) (clampN many) = r) :
    Calls Tryd.prog 14 #[.int .u64 x, .int .i64 low, .int .i64 many] w fun e w' => e = .returned (.int .u64 (r : Int)) ∧ ∃ m, w' = w.drewN m := by
  subst hx hr; exact field_calls n low many w hn
theorem with_at (x low many y : Int) (n v r : Nat) (w : World) (hx : x = n) (hy : y = v) (hn : n < 18446744073709551616) (hv : v < 18446744073709551616) (hr : withN n (clampN low) (clampN many) v = r) :
    Calls Tryd.prog 16 #[.int .u64 x, .int .i64 low, .int .i64 many, .int .u64 y] w fun e w' => e = .returned (.int .u64 (r : Int)) ∧ ∃ m, w' = w.drewN m := by
  subst hx hy hr; exact with_calls n v low many w hn hv
theorem low_at (x many r : Int) (n : Nat) (w : World) (hx : x = n) (hn : n < 18446744073709551616) (hT : TabZ w) (hr : lowS n many = r) :
    Calls Tryd.prog 18 #[.int .u64 x, .int .i64 many] w fun e w' => e = .returned (.int .i64 r) ∧ w = w' := by
  subst hx hr; exact low_calls n many w hn hT
theorem lit_field : fieldN 4660 (clampN 4) (clampN 8) = 35 := by decide +kernel
theorem lit_with : withN 255 (clampN 4) (clampN 4) 2 = 47 := by decide +kernel
theorem lit_low : lowS 11 4 = 2 := by decide +kernel
theorem lit_low2 : lowS 15 4 = -1 := by decide +kernel
theorem lit_word : wordAt (putL (List.replicate 16 0) (8 : Int).toNat 300) 8 = 300 := by decide +kernel
theorem lit_here : ¬ hereP (putL (List.replicate 16 0) (8 : Int).toNat 300).length 4 := by decide +kernel
theorem lit_here8 : hereP (putL (List.replicate 16 0) (8 : Int).toNat 300).length ((8 : Nat) : Int) := by decide +kernel
theorem lit_len : (putL (List.replicate 16 0) (8 : Int).toNat 300).length ≤ 140737488351232 := by decide +kernel
theorem here16a : hereP (List.replicate 16 (0 : Int)).length 8 := by decide
set_option maxHeartbeats 800000 in
theorem walive_calls (w : World) (hT : TabZ w) : Calls Tryd.prog 13 #[] w fun e w' => e = .returned (.bool true) ∧ Below w.heap.size w w' := by
  have h16 := Ints.zeros .u8 (by decide) 5 w 16 (by omega)
  have hmk : ∀ W : World, (Instr.makeSlice 30 (.int .i64 16) (.int .i64 16)).run Tryd.prog W = .ok (.slice (some ⟨W.heap.size, 0, none⟩) 16 16) (W.alloc (.cells (madeCells #[Value.int .u8 0] 16) 5)) := run_make_row' (P := Tryd.prog) 30 5 (.int .u8 0) 1 Tryd.underlying30 (by kernel_rfl) rfl .i64 .i64 16 (by omega) (by omega)
  have H16 := Lib.hid h16
  have HT := Lib.hid hT
  have hb0 := (Below.refl w.heap.size w).alloc (Nat.le_refl _) (.cells (madeCells #[Value.int .u8 0] 16) 5)
  have HB0 := Lib.hid hb0
  clear h16 hT hb0
  go_enter Tryd.func13, Tryd.ntmps13
  go_wp2_with fail
  refine (put_calls _ (List.replicate 16 0) 8 300 _ H16.out (by unfold I64; omega) (by unfold W64; omega)).mono ?_
  rintro e w1 ⟨x1, rfl, ho1, hb1⟩
  rw [decide_eq_true here16a]
  rw [if_pos here16a] at ho1
  have HI1 := Lib.hid (ho1.ints lit_len)
  have HB1 := Lib.hid (below_next HB0.out hb1)
  have HT1 := Lib.hid (HT.out.below HB1.out)
  clear ho1 hb1
  go_wp2_with fail
  refine (get_in _ _ 8 _ HI1.out lit_here8).mono ?_
  rintro e w' ⟨rfl, rfl⟩
  rw [lit_word]
  go_wp2_with fail
  refine (get_out _ _ 4 _ HI1.out (by unfold I64; omega) lit_here).mono ?_
  rintro e w' ⟨rfl, rfl⟩
  go_wp2_with fail
  refine (field_at _ _ _ 4660 35 _ rfl (by omega) lit_field).mono ?_
  rintro e w' ⟨rfl, m1, rfl⟩
  go_wp2_with fail
  refine (with_at _ _ _ _ 255 2 47 _ rfl rfl (by omega) (by omega) lit_with).mono ?_
  rintro e w' ⟨rfl, m2, rfl⟩
  go_wp2_with fail
  refine (low_at _ _ 2 11 _ rfl (by omega) (HT1.out.drewN _) lit_low).mono ?_
  rintro e w' ⟨rfl, rfl⟩
  go_wp2_with fail
  refine (low_at _ _ (-1) 15 _ rfl (by omega) (HT1.out.drewN _) lit_low2).mono ?_
  rintro e w' ⟨rfl, rfl⟩
  go_wp2
  go_ret
  exact ⟨rfl, below_drewN HB1.out _⟩
theorem nat_u64 {x : Int} (h : W64 x) : ∃ n : Nat, x = n ∧ n < 18446744073709551616 := by
  unfold W64 at h
  exact ⟨x.toNat, by omega, by omega⟩
set_option maxHeartbeats 1600000 in
theorem wordBits_walk (n : Int) (hn : (Lit.int .u64 n).wf = true) (v : Int) (hv : (Lit.int .u64 v).wf = true) (a b c : Int) {w : World} (hT : TabZ w) :
    Calls Tryd.prog 3 #[.int .u64 n, .int .u64 v, .agg #[.int .i64 a, .int .i64 b, .int .i64 c]] w fun e w' => e = .returned (.bool true) ∧ Below w.heap.size w w' := by
  obtain ⟨n, rfl, hn'⟩ := nat_u64 (bd_u64 hn)
  obtain ⟨v, rfl, hv'⟩ := nat_u64 (bd_u64 hv)
  have HN := Lib.hid hn'
  have HV := Lib.hid hv'
  have hba := (Below.refl w.heap.size w).alloc (Nat.le_refl _) (.cells #[.int .i64 a, .int .i64 b, .int .i64 c] 23)
  have HB0 := Lib.hid hba
  have HT0 := Lib.hid (hT.below hba)
  have HR0 : Hid ((w.alloc (.cells #[.int .i64 a, .int .i64 b, .int .i64 c] 23)).heap[w.heap.size]? = some (.cells #[.int .i64 a, .int .i64 b, .int .i64 c] 23 (0, 0))) := Lib.hid (heap_alloc_new w _)
  clear hn hv hn' hv' hba hT
  go_enter Tryd.func3, Tryd.ntmps3
  go_wp2_with fail
  refine (walive_calls _ HT0.out).mono ?_
  rintro e w1 ⟨rfl, hb1⟩
  have hlt : w.heap.size < (w.alloc (.cells #[.int .i64 a, .int .i64 b, .int .i64 c] 23)).heap.size := by simp
  have HR1 : Hid (w1.heap[w.heap.size]? = some (.cells #[.int .i64 a, .int .i64 b, .int .i64 c] 23 (0, 0))) := Lib.hid ((hb1.block _ hlt).trans HR0.out)
  have HT1 := Lib.hid (HT0.out.below hb1)
  have HB1 := Lib.hid (HB0.out.trans (hb1.mono (Nat.le_of_lt hlt)))
  clear hb1 hlt HR0
  have c0 := cell_of_row w1 w.heap.size 0 _ _ _ HR1.out
  have c1 := cell_of_row w1 w.heap.size 1 _ _ _ HR1.out
  have c2 := cell_of_row w1 w.heap.size 2 _ _ _ HR1.out
  simp at c0 c1 c2
  go_wp2
  go_quiet ((first | (go_at_call 14; exact quiet_at (field_calls n _ _ _ HN.out)) | (go_at_call 15; exact quiet_at (rfield_calls n _ _ _ HN.out)) | (go_at_call 16; exact quiet_at (with_calls n v _ _ _ HN.out HV.out)) | (go_at_call 17; exact quiet_at (rwith_calls n v _ _ _ HN.out HV.out)) | (go_at_call 18; exact Calls.quiet_of_eq (low_calls n _ _ HN.out (HT1.out.drewN _))) | (go_at_call 19; exact quiet_at (rlow_calls n _ _ HN.out))))
  go_wp2
  go_ret
  exact ⟨rfl, below_drewN HB1.out _⟩
set_option maxHeartbeats 1600000 in
theorem wordLow_walk (n : Int) (hn : (Lit.int .u64 n).wf = true) (b : Int) (hb : (Lit.int .u8 b).wf = true) {w : World} (hT : TabZ w) :
    Calls Tryd.prog 7 #[.int .u64 n, .int .u8 b] w fun e w' => e = .returned (.bool true) ∧ Below w.heap.size w w' := by
  obtain ⟨n, rfl, hn'⟩ := nat_u64 (bd_u64 hn)
  have hb' := bd_u8 hb
  obtain ⟨b, rfl⟩ := Int.eq_ofNat_of_zero_le hb'.1
  have HN := Lib.hid hn'
  have HT := Lib.hid hT
  obtain ⟨hk, hall, hno⟩ := lowN_tells n hn'
  have hmax : (18446744073709551615 : Nat) < 18446744073709551616 := by omega
  have HMX := Lib.hid hmax
  have hb2 : b ≤ 255 := by omega
  clear hn hn' hb hb' hT hmax
  have hc : 64 < b ∨ b = 64 ∨ b < 64 := by omega
  obtain ⟨L, hL⟩ : ∃ L : Nat, L = min b 64 := ⟨_, rfl⟩
  have hL2 : L ≤ 64 ∧ (L : Int) = min (b : Int) 64 := by omega
  by_cases hlow : lowN n < L
  · have HLO : Hid (lowS n (b : Int) = ((lowN n : Nat) : Int)) := Lib.hid (by unfold lowS; rw [if_pos (by omega)])
    have HF1 : Hid (fieldN n (clampN ((lowN n : Nat) : Int)) (clampN 1) = 0) := Lib.hid (by
      rw [clampN_mid _ hk, show clampN 1 = 1 from by decide]
      apply bits_eq
      intro i
      rw [tb_field]
      by_cases hi : i < 1
      · obtain rfl : i = 0 := by omega
        rw [Nat.add_zero, hno (by omega)]; simp
      · simp [hi])
    have HF2 : Hid (fieldN n (clampN 0) (clampN ((lowN n : Nat) : Int)) = fieldN 18446744073709551615 (clampN 0) (clampN ((lowN n : Nat) : Int))) := Lib.hid (by
      rw [clampN_mid _ hk, show clampN 0 = 0 from by decide]
      rcases lows_field hall with h | h
      · exact h
      · omega)
    generalize lowN n = k at *
    clear hall hno
    have hkL : k < 64 ∧ k < b := by omega
    clear hL hL2 hlow
    rcases hc with hc | rfl | hc
    all_goals
      go_enter Tryd.func7, Tryd.ntmps7
      go_wp2_with fail
      refine (walive_calls _ HT.out).mono ?_
      rintro e w1 ⟨rfl, hb1⟩
      have HT1 := Lib.hid (HT.out.below hb1)
      have HB1 := Lib.hid hb1
      clear hb1
      go_wp2_with fail
      refine (low_at _ _ ((k : Nat) : Int) n _ rfl HN.out HT1.out HLO.out).mono ?_
      rintro e w' ⟨rfl, rfl⟩
      go_wp2_with fail
      refine (field_at _ _ _ n 0 _ rfl HN.out HF1.out).mono ?_
      rintro e w' ⟨rfl, m1, rfl⟩
      go_wp2_with fail
      refine (field_at _ _ _ n _ _ rfl HN.out HF2.out).mono ?_
      rintro e w' ⟨rfl, m2, rfl⟩
      go_wp2_with fail
      refine (field_at _ _ _ 18446744073709551615 _ _ rfl HMX.out rfl).mono ?_
      rintro e w' ⟨rfl, m3, rfl⟩
      go_wp2
      go_ret
      exact ⟨rfl, below_drewN HB1.out _⟩
  · have HLO : Hid (lowS n (b : Int) = -1) := Lib.hid (by unfold lowS; rw [if_neg (by omega)])
    have HF2 : Hid (fieldN n (clampN 0) (clampN (L : Int)) = fieldN 18446744073709551615 (clampN 0) (clampN (L : Int))) := Lib.hid (by
      rw [clampN_mid _ hL2.1, show clampN 0 = 0 from by decide]
      rcases lows_field (n := n) (k := L) (fun i hi => hall i (by omega)) with h | h
      · exact h
      · omega)
    clear hall hno hlow hL hk
    rcases hc with hc | rfl | hc
    · obtain rfl : L = 64 := by omega
      clear hL2
      go_enter Tryd.func7, Tryd.ntmps7
      go_wp2_with fail
      refine (walive_calls _ HT.out).mono ?_
      rintro e w1 ⟨rfl, hb1⟩
      have HT1 := Lib.hid (HT.out.below hb1)
      have HB1 := Lib.hid hb1
      clear hb1
      go_wp2_with fail
      refine (low_at _ _ (-1) n _ rfl HN.out HT1.out HLO.out).mono ?_
      rintro e w' ⟨rfl, rfl⟩
      go_wp2_with fail
      refine (field_at _ _ _ n _ _ rfl HN.out HF2.out).mono ?_
      rintro e w' ⟨rfl, m2, rfl⟩
      go_wp2_with fail
      refine (field_at _ _ _ 18446744073709551615 _ _ rfl HMX.out rfl).mono ?_
      rintro e w' ⟨rfl, m3, rfl⟩
      go_wp2
      go_ret
      exact ⟨rfl, below_drewN HB1.out _⟩
    · obtain rfl : L = 64 := by omega
      clear hL2
      go_enter Tryd.func7, Tryd.ntmps7
      go_wp2_with fail
      refine (walive_calls _ HT.out).mono ?_
      rintro e w1 ⟨rfl, hb1⟩
      have HT1 := Lib.hid (HT.out.below hb1)
      have HB1 := Lib.hid hb1
      clear hb1
      go_wp2_with fail
      refine (low_at _ _ (-1) n _ rfl HN.out HT1.out HLO.out).mono ?_
      rintro e w' ⟨rfl, rfl⟩
      go_wp2_with fail
      refine (field_at _ _ _ n _ _ rfl HN.out HF2.out).mono ?_
      rintro e w' ⟨rfl, m2, rfl⟩
      go_wp2_with fail
      refine (field_at _ _ _ 18446744073709551615 _ _ rfl HMX.out rfl).mono ?_
      rintro e w' ⟨rfl, m3, rfl⟩
      go_wp2
      go_ret
      exact ⟨rfl, below_drewN HB1.out _⟩
    · obtain rfl : L = b := by omega
      clear hL2
      go_enter Tryd.func7, Tryd.ntmps7
      go_wp2_with fail
      refine (walive_calls _ HT.out).mono ?_
      rintro e w1 ⟨rfl, hb1⟩
      have HT1 := Lib.hid (HT.out.below hb1)
      have HB1 := Lib.hid hb1
      clear hb1
      go_wp2_with fail
      refine (low_at _ _ (-1) n _ rfl HN.out HT1.out HLO.out).mono ?_
      rintro e w' ⟨rfl, rfl⟩
      go_wp2_with fail
      refine (field_at _ _ _ n _ _ rfl HN.out HF2.out).mono ?_
      rintro e w' ⟨rfl, m2, rfl⟩
      go_wp2_with fail
      refine (field_at _ _ _ 18446744073709551615 _ _ rfl HMX.out rfl).mono ?_
      rintro e w' ⟨rfl, m3, rfl⟩
      go_wp2
      go_ret
      exact ⟨rfl, below_drewN HB1.out _⟩
set_option maxHeartbeats 1600000 in
theorem wordFields_walk (n v lo sz : Int) (hn : (Lit.int .u64 n).wf = true) (hv : (Lit.int .u64 v).wf = true) (hlo : (Lit.int .u8 lo).wf = true) (hsz : (Lit.int .u8 sz).wf = true) {w : World} (hT : TabZ w) :
    Calls Tryd.prog 5 #[.agg #[.int .u64 n, .int .u64 v, .int .u8 lo, .int .u8 sz]] w fun e w' => e = .returned (.bool true) ∧ Below w.heap.size w w' := by
  obtain ⟨n, rfl, hn'⟩ := nat_u64 (bd_u64 hn)
  obtain ⟨v, rfl, hv'⟩ := nat_u64 (bd_u64 hv)
  have hlo' := bd_u8 hlo
  have hsz' := bd_u8 hsz
  obtain ⟨L, hL⟩ : ∃ L : Nat, lo % 64 = L := ⟨(lo % 64).toNat, by omega⟩
  obtain ⟨S0, hS⟩ : ∃ S : Nat, sz % 65 = S := ⟨(sz % 65).toNat, by omega⟩
  have hL64 : L < 64 := by omega
  have hS64 : S0 ≤ 64 := by omega
  have HN := Lib.hid hn'
  have HV := Lib.hid hv'
  have hba := (Below.refl w.heap.size w).alloc (Nat.le_refl _) (.cells #[.int .u64 n, .int .u64 v, .int .u8 lo, .int .u8 sz] 37)
  have HB0 := Lib.hid hba
  have HT0 := Lib.hid (hT.below hba)
  have HR0 : Hid ((w.alloc (.cells #[.int .u64 n, .int .u64 v, .int .u8 lo, .int .u8 sz] 37)).heap[w.heap.size]? = some (.cells #[.int .u64 n, .int .u64 v, .int .u8 lo, .int .u8 sz] 37 (0, 0))) := Lib.hid (heap_alloc_new w _)
  clear hn hv hn' hv' hba hT hlo hsz
  have hs : S0 ≤ 64 - L ∨ 64 - L < S0 := by omega
  obtain ⟨S, hSS⟩ : ∃ S : Nat, S = min S0 (64 - L) := ⟨_, rfl⟩
  have hLS : L + S ≤ 64 := by omega
  have hcL : clampN (L : Int) = L := clampN_mid L (by omega)
  have hcS : clampN (S : Int) = S := clampN_mid S (by omega)
  have hcT : clampN ((L : Int) + (S : Int)) = L + S := by rw [← Int.natCast_add]; exact clampN_mid _ hLS
  have hc0 : clampN 0 = 0 := by decide
  have hc64 : clampN 64 = 64 := by decide
  have hn' := HN.out
  have hv' := HV.out
  have HF1 : Hid (fieldN (withN n (clampN (L : Int)) (clampN (S : Int)) v) (clampN (L : Int)) (clampN (S : Int)) = fieldN v (clampN 0) (clampN (S : Int))) := Lib.hid (by
    rw [hcL, hcS, hc0]; apply bits_eq; intro i
    rw [tb_field, tb_field, tb_with]
    by_cases hi : i < S
    · rw [if_pos (by omega), show L + i - L = 0 + i from by omega]; simp [hi, show L + i < 64 from by omega]
    · simp [hi])
  have HF2 : Hid (fieldN (withN n (clampN (L : Int)) (clampN (S : Int)) v) (clampN 0) (clampN (L : Int)) = fieldN n (clampN 0) (clampN (L : Int))) := Lib.hid (by
    rw [hcL, hcS, hc0]; apply bits_eq; intro i
    rw [tb_field, tb_field, tb_with]
    by_cases hi : i < L
    · rw [if_neg (by omega)]; simp [hi, show i < 64 from by omega]
    · simp [hi])
  have HF3 : Hid (fieldN (withN n (clampN (L : Int)) (clampN (S : Int)) v) (clampN ((L : Int) + (S : Int))) (clampN 64) = fieldN n (clampN ((L : Int) + (S : Int))) (clampN 64)) := Lib.hid (by
    rw [hcL, hcS, hcT, hc64]; apply bits_eq; intro i
    rw [tb_field, tb_field, tb_with, if_neg (by omega)]
    by_cases hi : L + S + i < 64
    · simp [hi]
    · rw [tb_hi hn' (show 64 ≤ L + S + i from by omega)]; simp)
  have HF4 : Hid (withN (withN 0 (clampN 0) (clampN (L : Int)) (fieldN n (clampN 0) (clampN (L : Int)))) (clampN (L : Int)) (clampN 64) (fieldN n (clampN (L : Int)) (clampN 64)) = n) := Lib.hid (by
    rw [hcL, hc0, hc64]; apply bits_eq; intro i
    rw [tb_with, tb_field, tb_with, tb_field]
    by_cases hi : i < 64
    · by_cases h2 : L ≤ i
      · rw [if_pos (by omega), show L + (i - L) = i from by omega]; simp [hi, show i - L < 64 from by omega]
      · rw [if_neg (by omega), if_pos (by omega)]; simp [hi, show i < L from by omega]
    · have h64' := tb_hi hn' (show 64 ≤ i by omega)
      simp [hi, h64'])
  have HF5 : Hid (withN n (clampN (L : Int)) (clampN (S : Int)) (fieldN n (clampN (L : Int)) (clampN (S : Int))) = n) := Lib.hid (by
    rw [hcL, hcS]; apply bits_eq; intro i
    rw [tb_with, tb_field]
    by_cases hi : i < 64
    · by_cases h2 : L ≤ i ∧ i < L + S
      · rw [if_pos h2, show L + (i - L) = i from by omega]; simp [hi, show i - L < S from by omega]
      · rw [if_neg h2]; simp [hi]
    · have h64' := tb_hi hn' (show 64 ≤ i by omega)
      simp [hi, h64'])
  have HX := Lib.hid (with_lt n (clampN (L : Int)) (clampN (S : Int)) v)
  have HY := Lib.hid (with_lt 0 (clampN 0) (clampN (L : Int)) (fieldN n (clampN 0) (clampN (L : Int))))
  have HZ := Lib.hid (field_lt64 (clampN 0) (clampN (L : Int)) hn')
  have HZ2 := Lib.hid (field_lt64 (clampN (L : Int)) (clampN 64) hn')
  have HZ3 := Lib.hid (field_lt64 (clampN (L : Int)) (clampN (S : Int)) hn')
  have H00 : Hid ((0 : Nat) < 18446744073709551616) := Lib.hid (by omega)
  clear hn' hv' hcL hcS hcT hc0 hc64
  generalize hx : withN n (clampN (L : Int)) (clampN (S : Int)) v = x at *
  have HXX := Lib.hid hx
  clear hx
  generalize hy : withN 0 (clampN 0) (clampN (L : Int)) (fieldN n (clampN 0) (clampN (L : Int))) = y at *
  have HYY := Lib.hid hy
  clear hy
  rcases hs with hs | hs
  · obtain rfl : S = S0 := by omega
    clear hSS
    go_enter Tryd.func5, Tryd.ntmps5
    go_wp2_with fail
    refine (walive_calls _ HT0.out).mono ?_
    rintro e w1 ⟨rfl, hb1⟩
    have hlt : w.heap.size < (w.alloc (.cells #[.int .u64 n, .int .u64 v, .int .u8 lo, .int .u8 sz] 37)).heap.size := by simp
    have HR1 : Hid (w1.heap[w.heap.size]? = some (.cells #[.int .u64 n, .int .u64 v, .int .u8 lo, .int .u8 sz] 37 (0, 0))) := Lib.hid ((hb1.block _ hlt).trans HR0.out)
    have HB1 := Lib.hid (HB0.out.trans (hb1.mono (Nat.le_of_lt hlt)))
    clear hb1 hlt HR0
    have c0 := cell_of_row w1 w.heap.size 0 _ _ _ HR1.out
    have c1 := cell_of_row w1 w.heap.size 1 _ _ _ HR1.out
    have c2 := cell_of_row w1 w.heap.size 2 _ _ _ HR1.out
    have c3 := cell_of_row w1 w.heap.size 3 _ _ _ HR1.out
    simp at c0 c1 c2 c3
    go_wp2
    go_quiet (fail)
    go_wp2
    go_quiet (fail)
    go_wp2_with fail
    refine (with_at _ _ _ _ n v _ _ rfl rfl HN.out HV.out HXX.out).mono ?_
    rintro e w' ⟨rfl, m', rfl⟩
    go_wp2_with fail
    refine (field_at _ _ _ x _ _ rfl HX.out HF1.out).mono ?_
    rintro e w' ⟨rfl, m', rfl⟩
    go_wp2_with fail
    refine (field_at _ _ _ v _ _ rfl HV.out rfl).mono ?_
    rintro e w' ⟨rfl, m', rfl⟩
    go_wp2_with fail
    refine (field_at _ _ _ x _ _ rfl HX.out HF2.out).mono ?_
    rintro e w' ⟨rfl, m', rfl⟩
    go_wp2_with fail
    refine (field_at _ _ _ n _ _ rfl HN.out rfl).mono ?_
    rintro e w' ⟨rfl, m', rfl⟩
    go_wp2_with fail
    refine (field_at _ _ _ x _ _ rfl HX.out HF3.out).mono ?_
    rintro e w' ⟨rfl, m', rfl⟩
    go_wp2_with fail
    refine (field_at _ _ _ n _ _ rfl HN.out rfl).mono ?_
    rintro e w' ⟨rfl, m', rfl⟩
    go_wp2_with fail
    refine (field_at _ _ _ n _ _ rfl HN.out rfl).mono ?_
    rintro e w' ⟨rfl, m', rfl⟩
    go_wp2_with fail
    refine (with_at _ _ _ _ 0 _ _ _ rfl rfl H00.out HZ.out HYY.out).mono ?_
    rintro e w' ⟨rfl, m', rfl⟩
    go_wp2_with fail
    refine (field_at _ _ _ n _ _ rfl HN.out rfl).mono ?_
    rintro e w' ⟨rfl, m', rfl⟩
    go_wp2_with fail
    refine (with_at _ _ _ _ y _ _ _ rfl rfl HY.out HZ2.out HF4.out).mono ?_
    rintro e w' ⟨rfl, m', rfl⟩
    go_wp2_with fail
    refine (field_at _ _ _ n _ _ rfl HN.out rfl).mono ?_
    rintro e w' ⟨rfl, m', rfl⟩
    go_wp2_with fail
    refine (with_at _ _ _ _ n _ _ _ rfl rfl HN.out HZ3.out HF5.out).mono ?_
    rintro e w' ⟨rfl, m', rfl⟩
    go_wp2
    go_ret
    exact ⟨rfl, below_drewN HB1.out _⟩
  · have h64 : 64 - (L : Int) = (S : Int) := by omega
    clear hSS
    go_enter Tryd.func5, Tryd.ntmps5
    go_wp2_with fail
    refine (walive_calls _ HT0.out).mono ?_
    rintro e w1 ⟨rfl, hb1⟩
    have hlt : w.heap.size < (w.alloc (.cells #[.int .u64 n, .int .u64 v, .int .u8 lo, .int .u8 sz] 37)).heap.size := by simp
    have HR1 : Hid (w1.heap[w.heap.size]? = some (.cells #[.int .u64 n, .int .u64 v, .int .u8 lo, .int .u8 sz] 37 (0, 0))) := Lib.hid ((hb1.block _ hlt).trans HR0.out)
    have HB1 := Lib.hid (HB0.out.trans (hb1.mono (Nat.le_of_lt hlt)))
    clear hb1 hlt HR0
    have c0 := cell_of_row w1 w.heap.size 0 _ _ _ HR1.out
    have c1 := cell_of_row w1 w.heap.size 1 _ _ _ HR1.out
    have c2 := cell_of_row w1 w.heap.size 2 _ _ _ HR1.out
    have c3 := cell_of_row w1 w.heap.size 3 _ _ _ HR1.out
    simp at c0 c1 c2 c3
    go_wp2
    go_quiet (fail)
    go_wp2
    go_quiet (fail)
    go_wp2_with fail
    refine (with_at _ _ _ _ n v _ _ rfl rfl HN.out HV.out HXX.out).mono ?_
    rintro e w' ⟨rfl, m', rfl⟩
    go_wp2_with fail
    refine (field_at _ _ _ x _ _ rfl HX.out HF1.out).mono ?_
    rintro e w' ⟨rfl, m', rfl⟩
    go_wp2_with fail
    refine (field_at _ _ _ v _ _ rfl HV.out rfl).mono ?_
    rintro e w' ⟨rfl, m', rfl⟩
    go_wp2_with fail
    refine (field_at _ _ _ x _ _ rfl HX.out HF2.out).mono ?_
    rintro e w' ⟨rfl, m', rfl⟩
    go_wp2_with fail
    refine (field_at _ _ _ n _ _ rfl HN.out rfl).mono ?_
    rintro e w' ⟨rfl, m', rfl⟩
    go_wp2_with fail
    refine (field_at _ _ _ x _ _ rfl HX.out HF3.out).mono ?_
    rintro e w' ⟨rfl, m', rfl⟩
    go_wp2_with fail
    refine (field_at _ _ _ n _ _ rfl HN.out rfl).mono ?_
    rintro e w' ⟨rfl, m', rfl⟩
    go_wp2_with fail
    refine (field_at _ _ _ n _ _ rfl HN.out rfl).mono ?_
    rintro e w' ⟨rfl, m', rfl⟩
    go_wp2_with fail
    refine (with_at _ _ _ _ 0 _ _ _ rfl rfl H00.out HZ.out HYY.out).mono ?_
    rintro e w' ⟨rfl, m', rfl⟩
    go_wp2_with fail
    refine (field_at _ _ _ n _ _ rfl HN.out rfl).mono ?_
    rintro e w' ⟨rfl, m', rfl⟩
    go_wp2_with fail
    refine (with_at _ _ _ _ y _ _ _ rfl rfl HY.out HZ2.out HF4.out).mono ?_
    rintro e w' ⟨rfl, m', rfl⟩
    go_wp2_with fail
    refine (field_at _ _ _ n _ _ rfl HN.out rfl).mono ?_
    rintro e w' ⟨rfl, m', rfl⟩
    go_wp2_with fail
    refine (with_at _ _ _ _ n _ _ _ rfl rfl HN.out HZ3.out HF5.out).mono ?_
    rintro e w' ⟨rfl, m', rfl⟩
    go_wp2
    go_ret
    exact ⟨rfl, below_drewN HB1.out _⟩
end Go.Proofs.YtkmkficnkiaajaaDoor
