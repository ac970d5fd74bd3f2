/- WORD: the laws' walks, of those on bytes. -/
import Derived.Test.YtkmkficnkiaajaaDoorWordLaws
namespace Go.Proofs.YtkmkficnkiaajaaDoor
open Go Go.RowKit

theorem putL_len {l : List Int} {at' : Int} (n : Int) : (if hereP l.length at' then putL l at'.toNat n else l).length = l.length := by
  by_cases h : hereP l.length at'
  · rw [if_pos h, putL_length n (by unfold hereP at h; omega)]
  · rw [if_neg h]
set_option maxHeartbeats 1600000 in
theorem wordOthers_in (v : Value) (l : List Int) (at' n : Int) (w : World) (hI : Ints .u8 w v l) (ha : I64 at') (hn : W64 n) (hT : TabZ w) (h1 : l.length ≤ 1000) (hh : hereP l.length at') :
    Calls Tryd.prog 6 #[v, .int .i64 at', .int .u64 n] w fun e w' => e = .returned (.bool true) ∧ Below w.heap.size w w' := by
  obtain ⟨a, cap, rfl⟩ := hI.slice
  have t1 : decide ((1000 : Int) < (l.length : Int)) = false := by simp; omega
  have HI := Lib.hid hI
  have HA := Lib.hid ha
  have HN := Lib.hid hn
  have HT := Lib.hid hT
  have HH := Lib.hid hh
  clear hI hn hT
  unfold I64 at ha
  obtain ⟨c, hc⟩ : ∃ c, c = if hereP l.length at' then putL l at'.toNat n else l := ⟨_, rfl⟩
  have hcl : c.length = l.length := by rw [hc]; exact putL_len n
  have hcs : ∀ k, k < l.length → l.getD k 0 = c.getD k 0 ∨ (hereP l.length at' ∧ at' ≤ k ∧ (k : Int) < at' + 8) := fun k hk => by
    rw [hc]
    by_cases h : hereP l.length at'
    · rw [if_pos h]
      by_cases h2 : at' ≤ k ∧ (k : Int) < at' + 8
      · exact .inr ⟨h, h2⟩
      · left; unfold hereP at h; exact (putL_out n (by omega) k (by omega)).symm
    · rw [if_neg h]; exact .inl rfl
  have HCS := Lib.hid hcs
  have HCL := Lib.hid hcl
  have HC := Lib.hid hc
  clear hc hcl hcs hh
  go_enter Tryd.func6, Tryd.ntmps6
  go_wp2_with fail
  refine (walive_calls _ HT.out).mono ?_
  rintro e w1 ⟨rfl, hb1⟩
  have HI1 := Lib.hid (HI.out.below hb1)
  have HB1 := Lib.hid hb1
  clear hb1
  go_wp2_with fail
  refine (put_calls _ l at' n _ HI1.out HA.out HN.out).mono ?_
  rintro e w2 ⟨x2, rfl, ho2, hb2⟩
  rw [← HC.out] at ho2
  rw [decide_eq_true HH.out]
  have HI2 := Lib.hid (HI1.out.below hb2)
  have HO2 := Lib.hid (ho2.ints (by rw [HCL.out]; omega))
  have HB2 := Lib.hid (below_next HB1.out hb2)
  obtain ⟨a2, cap2, rfl⟩ := ho2.slice
  rw [HCL.out] at HO2 ⊢
  have hcap := HI2.out.cap_le
  have hcap2 := HO2.out.cap_le
  rw [HCL.out] at hcap2
  clear ho2 hb2
  go_wp2
  go_loopw [31] (fun i wr => ∃ k m : Nat, k ≤ l.length ∧ i = .int .i64 k ∧ wr = w2.drewN m) (fun i _ => l.length - (intOf i).toNat)
  case atStart => exact ⟨0, 0, Nat.zero_le _, rfl, rfl⟩
  case round =>
    obtain ⟨k, m, hk, rfl, rfl⟩ := hrel
    by_cases hlt : k < l.length
    · obtain ⟨b, off, rfl, hz1, hx⟩ := HI2.out.row k hlt
      obtain ⟨b', off', rfl, hz2, hy⟩ := HO2.out.row k (by rw [HCL.out]; exact hlt)
      clear hz1 hz2
      have hor := HCS.out k hlt
      generalize l.getD k 0 = x at *
      generalize c.getD k 0 = y at *
      by_cases hxy : x = y
      · subst hxy
        have e1 : (x != x) = false := by simp
        clear hor
        go_wp2
        go_quiet (fail)
        go_wp2
        go_roundw
        case rel => exact ⟨k + 1, m + nq, by omega, by go_num, rfl⟩
        case measure => simp [intOf]; omega
      · rcases hor with h | ⟨h, h2, h3⟩
        · exact absurd h hxy
        · have e1 : (x != y) = true := by simpa using hxy
          have u1 : decide ((k : Int) < at') = false := by simp; omega
          have u2 : decide (at' + 8 ≤ (k : Int)) = false := by simp; omega
          clear h hxy
          go_wp2
          go_quiet (fail)
          go_wp2
          go_roundw
          case rel => exact ⟨k + 1, m + nq, by omega, by go_num, rfl⟩
          case measure => simp [intOf]; omega
    · obtain rfl : k = l.length := by omega
      obtain ⟨q, hq⟩ : ∃ q : Nat, at' = q := ⟨at'.toNat, by have := HH.out; unfold hereP at this; omega⟩
      subst hq
      go_wp2_with fail
      refine (get_in _ l q _ (HI2.out.drewN m) HH.out).mono ?_
      rintro e w' ⟨rfl, rfl⟩
      go_wp2
      go_ret
      exact ⟨rfl, below_drewN HB2.out m⟩
set_option maxHeartbeats 1600000 in
theorem wordOthers_un (v : Value) (l : List Int) (at' n : Int) (w : World) (hI : Ints .u8 w v l) (ha : I64 at') (hn : W64 n) (hT : TabZ w) (h1 : l.length ≤ 1000) (hh : ¬ hereP l.length at') :
    Calls Tryd.prog 6 #[v, .int .i64 at', .int .u64 n] w fun e w' => e = .returned (.bool true) ∧ Below w.heap.size w w' := by
  obtain ⟨a, cap, rfl⟩ := hI.slice
  have t1 : decide ((1000 : Int) < (l.length : Int)) = false := by simp; omega
  have HI := Lib.hid hI
  have HA := Lib.hid ha
  have HN := Lib.hid hn
  have HT := Lib.hid hT
  have HH := Lib.hid hh
  clear hI hn hT
  unfold I64 at ha
  obtain ⟨c, hc⟩ : ∃ c, c = if hereP l.length at' then putL l at'.toNat n else l := ⟨_, rfl⟩
  have hcl : c.length = l.length := by rw [hc]; exact putL_len n
  have hcs : ∀ k, k < l.length → l.getD k 0 = c.getD k 0 ∨ (hereP l.length at' ∧ at' ≤ k ∧ (k : Int) < at' + 8) := fun k hk => by
    rw [hc]
    by_cases h : hereP l.length at'
    · rw [if_pos h]
      by_cases h2 : at' ≤ k ∧ (k : Int) < at' + 8
      · exact .inr ⟨h, h2⟩
      · left; unfold hereP at h; exact (putL_out n (by omega) k (by omega)).symm
    · rw [if_neg h]; exact .inl rfl
  have HCS := Lib.hid hcs
  have HCL := Lib.hid hcl
  have HC := Lib.hid hc
  clear hc hcl hcs hh
  go_enter Tryd.func6, Tryd.ntmps6
  go_wp2_with fail
  refine (walive_calls _ HT.out).mono ?_
  rintro e w1 ⟨rfl, hb1⟩
  have HI1 := Lib.hid (HI.out.below hb1)
  have HB1 := Lib.hid hb1
  clear hb1
  go_wp2_with fail
  refine (put_calls _ l at' n _ HI1.out HA.out HN.out).mono ?_
  rintro e w2 ⟨x2, rfl, ho2, hb2⟩
  rw [← HC.out] at ho2
  rw [decide_eq_false HH.out]
  have HI2 := Lib.hid (HI1.out.below hb2)
  have HO2 := Lib.hid (ho2.ints (by rw [HCL.out]; omega))
  have HB2 := Lib.hid (below_next HB1.out hb2)
  obtain ⟨a2, cap2, rfl⟩ := ho2.slice
  rw [HCL.out] at HO2 ⊢
  have hcap := HI2.out.cap_le
  have hcap2 := HO2.out.cap_le
  rw [HCL.out] at hcap2
  clear ho2 hb2
  go_wp2
  go_loopw [31] (fun i wr => ∃ k m : Nat, k ≤ l.length ∧ i = .int .i64 k ∧ wr = w2.drewN m) (fun i _ => l.length - (intOf i).toNat)
  case atStart => exact ⟨0, 0, Nat.zero_le _, rfl, rfl⟩
  case round =>
    obtain ⟨k, m, hk, rfl, rfl⟩ := hrel
    by_cases hlt : k < l.length
    · obtain ⟨b, off, rfl, hz1, hx⟩ := HI2.out.row k hlt
      obtain ⟨b', off', rfl, hz2, hy⟩ := HO2.out.row k (by rw [HCL.out]; exact hlt)
      clear hz1 hz2
      have hor := HCS.out k hlt
      generalize l.getD k 0 = x at *
      generalize c.getD k 0 = y at *
      by_cases hxy : x = y
      · subst hxy
        have e1 : (x != x) = false := by simp
        clear hor
        go_wp2
        go_quiet (fail)
        go_wp2
        go_roundw
        case rel => exact ⟨k + 1, m + nq, by omega, by go_num, rfl⟩
        case measure => simp [intOf]; omega
      · rcases hor with h | ⟨h, h2, h3⟩
        · exact absurd h hxy
        · exact absurd h HH.out
    · obtain rfl : k = l.length := by omega
      go_wp2_with fail
      refine (get_out _ l at' _ (HI2.out.drewN m) HA.out HH.out).mono ?_
      rintro e w' ⟨rfl, rfl⟩
      go_wp2
      go_ret
      exact ⟨rfl, below_drewN HB2.out m⟩
set_option maxHeartbeats 400000 in
theorem wordOthers_out (v : Value) (l : List Int) (at' n : Int) (w : World) (hI : Ints .u8 w v l) (hT : TabZ w) (h1 : 1000 < l.length) :
    Calls Tryd.prog 6 #[v, .int .i64 at', .int .u64 n] w fun e w' => e = .returned (.bool true) ∧ Below w.heap.size w w' := by
  obtain ⟨a, cap, rfl⟩ := hI.slice
  have t1 : decide ((1000 : Int) < (l.length : Int)) = true := by simp; omega
  clear hI
  go_enter Tryd.func6, Tryd.ntmps6
  go_wp2_with fail
  refine (walive_calls _ hT).mono ?_
  rintro e w1 ⟨rfl, hb1⟩
  go_wp2
  go_ret
  exact ⟨rfl, hb1⟩
theorem wordOthers_walk (v : Value) (l : List Int) {w : World} (hI : Ints .u8 w v l) (at' : Int) (ha : (Lit.int .i64 at').wf = true) (n : Int) (hn : (Lit.int .u64 n).wf = true) (hT : TabZ w) :
    Calls Tryd.prog 6 #[v, .int .i64 at', .int .u64 n] w fun e w' => e = .returned (.bool true) ∧ Below w.heap.size w w' := by
  by_cases h1 : l.length ≤ 1000
  · by_cases hh : hereP l.length at'
    · exact wordOthers_in v l at' n w hI (bd_i64 ha) (bd_u64 hn) hT h1 hh
    · exact wordOthers_un v l at' n w hI (bd_i64 ha) (bd_u64 hn) hT h1 hh
  · exact wordOthers_out v l at' n w hI hT (by omega)
/-- the bytes behind k words put -/
def bufs (l : List Int) : Nat → List Int
  | 0 => List.replicate (8 * l.length) 0
  | k + 1 => putL (bufs l k) (8 * k) (l.getD k 0)
theorem bufs_length (l : List Int) : ∀ k, k ≤ l.length → (bufs l k).length = 8 * l.length
  | 0, _ => by simp [bufs]
  | k + 1, h => by
    have ih := bufs_length l k (by omega)
    show (putL (bufs l k) (8 * k) _).length = _
    rw [putL_length _ (by omega), ih]
theorem bufs_at (l : List Int) (hw : ∀ c ∈ l, W64 c) : ∀ k, k ≤ l.length → ∀ j, j < k → wordAt (bufs l k) (8 * j) = l.getD j 0
  | 0, _, j, hj => by omega
  | k + 1, h, j, hj => by
    have hl := bufs_length l k (by omega)
    have hk : k < l.length := by omega
    have hc : W64 (l.getD k 0) := by
      have : l.getD k 0 = l[k] := by simp [hk]
      rw [this]; exact hw _ (List.getElem_mem _)
    show wordAt (putL (bufs l k) (8 * k) _) _ = _
    by_cases e : j = k
    · subst e
      exact wordAt_put (by omega) hc.1 hc.2
    · rw [wordAt_else _ (by omega) (by omega)]
      exact bufs_at l hw k (by omega) j (by omega)
theorem here_mul (m k : Nat) (h : k < m) : hereP (8 * m) (8 * (k : Int)) := by unfold hereP; omega
theorem toNat_mul (k : Nat) : (8 * (k : Int)).toNat = 8 * k := by omega
set_option maxRecDepth 100000 in
set_option maxHeartbeats 3200000 in
theorem wordBack_main (v : Value) (l : List Int) (at' n : Int) (w : World) (hI : Ints .u64 w v l) (ha : 0 ≤ at' ∧ at' ≤ 255) (hn : W64 n) (hT : TabZ w) (h0 : 0 < l.length) (h1 : l.length ≤ 125) :
    Calls Tryd.prog 4 #[v, .int .u8 at', .int .u64 n] w fun e w' => e = .returned (.bool true) ∧ Below w.heap.size w w' := by
  obtain ⟨a, cap, rfl⟩ := hI.slice
  have t1 : decide ((125 : Int) < (l.length : Int)) = false := by simp; omega
  have t2 : ((l.length : Int) == 0) = false := by rw [beq_eq_false_iff_ne]; omega
  obtain ⟨b, off, rfl, hcs⟩ := hI.cells h0
  have hcap := hI.cap_le
  obtain ⟨q, hq⟩ : ∃ q : Nat, at' % (l.length : Int) = q := ⟨(at' % (l.length : Int)).toNat, by rw [Int.toNat_of_nonneg (Int.emod_nonneg at' (show (l.length : Int) ≠ 0 by omega))]⟩
  have hql : q < l.length := by
    have h := Int.emod_lt_of_pos at' (show (0 : Int) < l.length by omega)
    rw [hq] at h
    omega
  have HI := Lib.hid hI
  have HN := Lib.hid hn
  have HT := Lib.hid hT
  have HW : Hid (∀ c ∈ l, W64 c) := Lib.hid (fun c hc => bd_u64 (hI.1 c hc))
  have HBL := Lib.hid (bufs_length l)
  have HBA := Lib.hid (bufs_at l HW.out)
  have hmk : ∀ W : World, (Instr.makeSlice 30 (.int .i64 (8 * (l.length : Int))) (.int .i64 (8 * (l.length : Int)))).run Tryd.prog W = .ok (.slice (some ⟨W.heap.size, 0, none⟩) (8 * l.length) (8 * l.length)) (W.alloc (.cells (madeCells #[Value.int .u8 0] (8 * l.length)) 5)) := fun W => by
    rw [show (8 * (l.length : Int)) = ((8 * l.length : Nat) : Int) from by simp]
    exact run_make_row' (P := Tryd.prog) 30 5 (.int .u8 0) 1 Tryd.underlying30 (by kernel_rfl) rfl .i64 .i64 (8 * l.length) (by omega) (by omega) W
  clear hI hn hT hcs
  go_enter Tryd.func4, Tryd.ntmps4
  go_wp2_with fail
  refine (walive_calls _ HT.out).mono ?_
  rintro e w1 ⟨rfl, hb1⟩
  have HI1 := Lib.hid (HI.out.below hb1)
  have HB1 := Lib.hid hb1
  have hz1 := Ints.zeros .u8 (by decide) 5 w1 (8 * l.length) (by omega)
  have hb2 := (Below.refl w1.heap.size w1).alloc (Nat.le_refl _) (.cells (madeCells #[Value.int .u8 0] (8 * l.length)) 5)
  have HZ := Lib.hid hz1
  have HI2 := Lib.hid (HI1.out.below hb2)
  have HB2 := Lib.hid (below_next HB1.out hb2)
  clear hb1 hb2 hz1
  go_wp2
  go_loopw [7, 37] (fun v i wr => ∃ k : Nat, k ≤ l.length ∧ i = .int .i64 k ∧ (∃ a cap, v = .slice a (8 * l.length) cap ∧ Ints .u8 wr v (bufs l k)) ∧ Ints .u64 wr (.slice (some ⟨b, off, none⟩) l.length cap) l ∧ Below w.heap.size w wr) (fun _ i _ => l.length - (intOf i).toNat)
  case atStart => exact ⟨0, Nat.zero_le _, rfl, ⟨_, _, rfl, HZ.out⟩, HI2.out, HB2.out⟩
  case round =>
    obtain ⟨k, hk, rfl, ⟨a1, cap1, rfl, hbuf⟩, hil, hbw⟩ := hrel
    have HBUF := Lib.hid hbuf
    have HIL := Lib.hid hil
    have HBW := Lib.hid hbw
    clear hbuf hil hbw
    by_cases hlt : k < l.length
    · obtain ⟨_, _, hz1, hz2, hx⟩ := HIL.out.row k hlt
      simp only [Option.some.injEq, Addr.mk.injEq, and_true] at hz1
      obtain ⟨rfl, rfl⟩ := hz1
      clear hz2
      have HX : Hid (W64 (l.getD k 0)) := Lib.hid (HW.out _ (by rw [List.getD_eq_getElem?_getD, List.getElem?_eq_getElem hlt]; exact List.getElem_mem _))
      have HHE : Hid (hereP (bufs l k).length (8 * (k : Int))) := Lib.hid (by rw [HBL.out k hk]; exact here_mul _ _ hlt)
      have HST : Hid (putL (bufs l k) (8 * k) (l.getD k 0) = bufs l (k + 1)) := Lib.hid rfl
      generalize l.getD k 0 = x at *
      go_wp2_with fail
      refine (put_calls _ (bufs l k) (8 * (k : Int)) x _ HBUF.out (by unfold I64; omega) HX.out).mono ?_
      rintro e w3 ⟨x3, rfl, ho3, hb3⟩
      rw [decide_eq_true HHE.out]
      rw [if_pos HHE.out, toNat_mul, HST.out] at ho3
      obtain ⟨a3, cap3, rfl⟩ := ho3.slice
      rw [HBL.out (k + 1) hlt] at ho3 ⊢
      have HO3 := Lib.hid (ho3.ints (by rw [HBL.out (k + 1) hlt]; omega))
      have HIL3 := Lib.hid (HIL.out.below hb3)
      have HB3 := Lib.hid (below_next HBW.out hb3)
      clear ho3 hb3
      go_wp2
      go_roundw
      case rel => exact ⟨k + 1, hlt, by go_num, ⟨_, _, rfl, HO3.out⟩, HIL3.out, HB3.out⟩
      case measure => simp [intOf]; omega
    · obtain rfl : k = l.length := by omega
      have HHE : Hid (hereP (bufs l l.length).length (8 * (q : Int))) := Lib.hid (by rw [HBL.out _ (Nat.le_refl _)]; exact here_mul _ _ hql)
      have HBB := Lib.hid (HBL.out _ (Nat.le_refl _))
      have HBT := Lib.hid (HBA.out _ (Nat.le_refl _))
      generalize bufs l l.length = B at *
      go_wp2_with fail
      refine (put_calls _ B (8 * (q : Int)) n _ HBUF.out (by unfold I64; omega) HN.out).mono ?_
      rintro e w3 ⟨x3, rfl, ho3, hb3⟩
      rw [decide_eq_true HHE.out]
      rw [if_pos HHE.out, toNat_mul] at ho3
      have hcl : (putL B (8 * q) n).length = 8 * l.length := by rw [putL_length _ (by rw [HBB.out]; omega), HBB.out]
      have hct : ∀ j, j < l.length → wordAt (putL B (8 * q) n) (8 * j) = if j = q then n else l.getD j 0 := fun j hj => by
        by_cases e : j = q
        · rw [if_pos e, e]; exact wordAt_put (by rw [HBB.out]; omega) HN.out.1 HN.out.2
        · rw [if_neg e, wordAt_else _ (by rw [HBB.out]; omega) (by omega), HBT.out j hj]
      have HCT := Lib.hid hct
      have HCL := Lib.hid hcl
      clear hct hcl
      generalize putL B (8 * q) n = C at *
      obtain ⟨a3, cap3, rfl⟩ := ho3.slice
      rw [HCL.out] at ho3 ⊢
      have HO3 := Lib.hid (ho3.ints (by rw [HCL.out]; omega))
      have HBUF3 := Lib.hid (HBUF.out.below hb3)
      have HIL3 := Lib.hid (HIL.out.below hb3)
      have HB3 := Lib.hid (below_next HBW.out hb3)
      clear ho3 hb3 hlt hk HBUF HIL HBW
      go_wp2
      go_loop [78] (fun i => ∃ k : Nat, k ≤ l.length ∧ i = .int .i64 k) (fun i => l.length - (intOf i).toNat)
      case atStart => exact ⟨0, Nat.zero_le _, rfl⟩
      case round =>
        obtain ⟨k, hk, rfl⟩ := hrel
        by_cases hlt : k < l.length
        · obtain ⟨_, _, hz1, hz2, hx⟩ := HIL3.out.row k hlt
          simp only [Option.some.injEq, Addr.mk.injEq, and_true] at hz1
          obtain ⟨rfl, rfl⟩ := hz1
          clear hz2
          have HG1 : Hid (hereP B.length ((8 * k : Nat) : Int)) := Lib.hid (by rw [HBB.out]; exact here_mul _ _ hlt)
          have HG2 : Hid (hereP C.length ((8 * k : Nat) : Int)) := Lib.hid (by rw [HCL.out]; exact here_mul _ _ hlt)
          have HW1 := Lib.hid (HBT.out k hlt)
          have HW2 := Lib.hid (HCT.out k hlt)
          have HGC : Hid (Calls Tryd.prog 21 #[.slice a1 (8 * l.length) cap1, .int .i64 (8 * (k : Int))] w3 fun e w' => e = .returned (.tuple #[.int .u64 (l.getD k 0), .bool true]) ∧ w3 = w') := Lib.hid (by
            have h := get_in _ B (8 * k) w3 HBUF3.out HG1.out
            rw [HW1.out] at h
            rw [show (8 * (k : Int)) = ((8 * k : Nat) : Int) from by simp]
            exact h)
          have HGD : Hid (Calls Tryd.prog 21 #[.slice a3 (8 * l.length) cap3, .int .i64 (8 * (k : Int))] w3 fun e w' => e = .returned (.tuple #[.int .u64 (if k = q then n else l.getD k 0), .bool true]) ∧ w3 = w') := Lib.hid (by
            have h := get_in _ C (8 * k) w3 HO3.out HG2.out
            rw [HW2.out] at h
            rw [show (8 * (k : Int)) = ((8 * k : Nat) : Int) from by simp]
            exact h)
          generalize l.getD k 0 = x at *
          by_cases e : k = q
          · rw [if_pos e] at HGD
            have u1 : ((k : Int) != (q : Int)) = false := by simp; omega
            have u2 : ((k : Int) == (q : Int)) = true := by simp; omega
            have e1 : (x != x) = false := by simp
            have e2 : (n != n) = false := by simp
            clear e
            go_wp2_with fail
            refine HGC.out.mono ?_
            rintro e w' ⟨rfl, rfl⟩
            go_wp2_with fail
            refine HGD.out.mono ?_
            rintro e w' ⟨rfl, rfl⟩
            go_wp2
            go_round
            case rel => exact ⟨k + 1, hlt, by go_num⟩
            case measure => simp [intOf]; omega
          · rw [if_neg e] at HGD
            have u1 : ((k : Int) != (q : Int)) = true := by simp; omega
            have u2 : ((k : Int) == (q : Int)) = false := by simp; omega
            have e1 : (x != x) = false := by simp
            clear e
            go_wp2_with fail
            refine HGC.out.mono ?_
            rintro e w' ⟨rfl, rfl⟩
            go_wp2_with fail
            refine HGD.out.mono ?_
            rintro e w' ⟨rfl, rfl⟩
            go_wp2
            go_round
            case rel => exact ⟨k + 1, hlt, by go_num⟩
            case measure => simp [intOf]; omega
        · obtain rfl : k = l.length := by omega
          go_wp2
          go_ret
          exact ⟨rfl, HB3.out⟩
set_option maxHeartbeats 400000 in
theorem wordBack_out (v : Value) (l : List Int) (at' n : Int) (w : World) (hI : Ints .u64 w v l) (hT : TabZ w) (h : l.length = 0 ∨ 125 < l.length) :
    Calls Tryd.prog 4 #[v, .int .u8 at', .int .u64 n] w fun e w' => e = .returned (.bool true) ∧ Below w.heap.size w w' := by
  obtain ⟨a, cap, rfl⟩ := hI.slice
  clear hI
  rcases h with h | h
  · rw [h]
    clear h
    go_enter Tryd.func4, Tryd.ntmps4
    go_wp2_with fail
    refine (walive_calls _ hT).mono ?_
    rintro e w1 ⟨rfl, hb1⟩
    go_wp2
    go_ret
    exact ⟨rfl, hb1⟩
  · have t1 : decide ((125 : Int) < (l.length : Int)) = true := by simp; omega
    go_enter Tryd.func4, Tryd.ntmps4
    go_wp2_with fail
    refine (walive_calls _ hT).mono ?_
    rintro e w1 ⟨rfl, hb1⟩
    go_wp2
    go_ret
    exact ⟨rfl, hb1⟩
theorem wordBack_walk (v : Value) (l : List Int) {w : World} (hI : Ints .u64 w v l) (at' : Int) (ha : (Lit.int .u8 at').wf = true) (n : Int) (hn : (Lit.int .u64 n).wf = true) (hT : TabZ w) :
    Calls Tryd.prog 4 #[v, .int .u8 at', .int .u64 n] w fun e w' => e = .returned (.bool true) ∧ Below w.heap.size w w' := by
  by_cases h : 0 < l.length ∧ l.length ≤ 125
  · exact wordBack_main v l at' n w hI (bd_u8 ha) (bd_u64 hn) hT h.1 h.2
  · exact wordBack_out v l at' n w hI hT (by omega)
end Go.Proofs.YtkmkficnkiaajaaDoor
