/- SLAB: SlabFills: from nothing each block is taken, the lowest first, till there is none; what is dropped counts. -/
import Derived.Test.YtkmkficnkiaajaaDoorSlabOrder
namespace Go.Proofs.YtkmkficnkiaajaaDoor
open Go Go.RowKit

/-- a word of class 'c' with the first k blocks -/
def fillN (c k : Nat) : Nat := if k = 0 then 0 else c * 65536 + (2 ^ k - 1)
theorem pow16 {k : Nat} (h : k ≤ 16) : 2 ^ k ≤ 65536 := Nat.le_trans (Nat.pow_le_pow_right (by omega) h) (by decide)
theorem fill_parts (c k : Nat) (hk0 : k ≠ 0) (hk : k ≤ 16) : fillN c k / 65536 = c ∧ fillN c k % 65536 = 2 ^ k - 1 := by
  have h1 := pow16 hk
  have h2 : 0 < 2 ^ k := Nat.pow_pos (by omega)
  unfold fillN
  rw [if_neg hk0]
  generalize 2 ^ k = p at *
  omega
theorem fill_bit (c k i : Nat) (hk : k ≤ 16) (hi : i < 16) : (fillN c k).testBit i = decide (i < k) := by
  by_cases h0 : k = 0
  · subst h0
    unfold fillN
    simp
  · rw [← tb_low hi, (fill_parts c k h0 hk).2, tb_mask]
theorem fill_right (c k : Nat) (h : c = 1 ∧ k ≤ 16 ∨ c = 2 ∧ k ≤ 4) : rightP (fillN c k) := by
  by_cases h0 : k = 0
  · subst h0; exact .inl rfl
  · rw [right_iff]
    right
    rcases h with ⟨rfl, hk⟩ | ⟨rfl, hk⟩
    · left; exact ⟨(fill_parts 1 k h0 hk).1, 0, by omega, by rw [fill_bit _ _ _ hk (by omega)]; simp; omega⟩
    · right
      refine ⟨(fill_parts 2 k h0 (by omega)).1, ⟨0, by omega, by rw [fill_bit _ _ _ (by omega) (by omega)]; simp; omega⟩, fun i h4 h16 => ?_⟩
      rw [fill_bit _ _ _ (by omega) h16]; simp; omega
theorem fill_lt (c k : Nat) (h : c ≤ 2) (hk : k ≤ 16) : fillN c k < 18446744073709551616 := by
  have h1 := pow16 hk
  unfold fillN
  split
  · omega
  · generalize 2 ^ k = p at *
    omega
theorem fill_open (c k : Nat) (h : c = 1 ∧ k ≤ 16 ∨ c = 2 ∧ k ≤ 4) : openP (fillN c k) (c : Int) := by
  have hr := fill_right c k h
  refine ⟨hr, by unfold knownP; omega, ?_⟩
  by_cases h0 : k = 0
  · left; subst h0; rfl
  · right; rw [cls_div hr, (fill_parts c k h0 (by omega)).1]
def blkNat (c : Nat) : Nat := if c = 1 then 16 else if c = 2 then 4 else 0
theorem low_fill (c k : Nat) (h : c = 1 ∧ k ≤ 16 ∨ c = 2 ∧ k ≤ 4) : lowN (takN (fillN c k)) = k := by
  have h16 : k ≤ 16 := by omega
  have hlt : takN (fillN c k) < 18446744073709551616 := by rw [takN_eq]; omega
  refine lowN_unique hlt (fun i hi => ?_) ?_ (by omega)
  · rw [takN_eq, tb_low (by omega), fill_bit c k i h16 (by omega)]; simp [hi]
  · rw [takN_eq]
    by_cases hk : k < 16
    · rw [tb_low hk, fill_bit c k k h16 hk]; simp
    · exact Nat.testBit_lt_two_pow (Nat.lt_of_lt_of_le (show fillN c k % 65536 < 2 ^ 16 by have : (2 : Nat) ^ 16 = 65536 := rfl; omega) (Nat.pow_le_pow_right (by omega) (by omega)))
theorem fill_next (c k : Nat) (h : c = 1 ∧ k < 16 ∨ c = 2 ∧ k < 4) : nextS (fillN c k) (c : Int) = (k : Int) := by
  unfold nextS lowS
  rw [if_pos (fill_open c k (by omega)), low_fill c k (by omega)]
  have hb : blkN (c : Int) = 16 ∧ k < 16 ∨ blkN (c : Int) = 4 ∧ k < 4 := by
    rcases h with ⟨rfl, hk⟩ | ⟨rfl, hk⟩
    · exact .inl ⟨rfl, hk⟩
    · exact .inr ⟨rfl, hk⟩
  rw [if_pos (by omega)]
theorem fill_full (c k : Nat) (h : c = 1 ∧ k = 16 ∨ c = 2 ∧ k = 4) : nextS (fillN c k) (c : Int) = -1 := by
  unfold nextS lowS
  rw [if_pos (fill_open c k (by omega)), low_fill c k (by omega)]
  have hb : blkN (c : Int) = 16 ∧ k = 16 ∨ blkN (c : Int) = 4 ∧ k = 4 := by
    rcases h with ⟨rfl, hk⟩ | ⟨rfl, hk⟩
    · exact .inl ⟨rfl, hk⟩
    · exact .inr ⟨rfl, hk⟩
  rw [if_neg (by omega)]
theorem fill_takeP (c k : Nat) (h : c = 1 ∧ k < 16 ∨ c = 2 ∧ k < 4) : takeP (fillN c k) (c : Int) (k : Int) := by
  have hr := fill_right c k (by omega)
  refine ⟨fill_open c k (by omega), by omega, ?_, ?_⟩
  · rcases h with ⟨rfl, hk⟩ | ⟨rfl, hk⟩
    · show (k : Int) < 16; omega
    · show (k : Int) < 4; omega
  · rw [hasB_nat hr k (by omega), fill_bit c k k (by omega) (by omega)]; simp
theorem fill_take (c k : Nat) (h : c = 1 ∧ k < 16 ∨ c = 2 ∧ k < 4) : takeN (fillN c k) (c : Int) (k : Int) = fillN c (k + 1) := by
  have ht := fill_takeP c k h
  obtain ⟨k', c', e1, e2, hk', _, hr, hd, hb, _, _, _⟩ := take_tells ht
  obtain rfl : k = k' := by omega
  obtain rfl : c = c' := by omega
  refine word_ext (by rw [hd, (fill_parts c (k + 1) (by omega) (by omega)).1]) fun i hi => ?_
  rw [hb i hi, fill_bit c k i (by omega) hi, fill_bit c (k + 1) i (by omega) hi, Bool.eq_iff_iff]
  simp
  omega
theorem fill_len (c : Nat) (h : c = 1 ∨ c = 2) : ∀ k, c = 1 ∧ k ≤ 16 ∨ c = 2 ∧ k ≤ 4 → (listN (fillN c k)).length = k
  | 0, _ => (listN_zero (.inl rfl)).2 rfl
  | k + 1, hk => by
    rw [← fill_take c k (by omega), take_len (fill_takeP c k (by omega)), fill_len c h k (by omega)]
/-- what the drops keep: a right word of that class, and how many blocks it has -/
def dropsI (c : Int) (n : Nat) (cnt : Int) : Prop := rightP n ∧ (n = 0 ∨ knownP c ∧ ((clsN n : Nat) : Int) = c) ∧ cnt = ((listN n).length : Int) ∧ n < 18446744073709551616
theorem dropsI_step {c : Int} {n : Nat} {cnt a : Int} (h : dropsI c n cnt) (ha : hasB n a = true) : dropsI c (dropN n a) (cnt - 1) := by
  obtain ⟨hr, hc, hl, hlt⟩ := h
  obtain ⟨k, rfl, hk, hb, _, hr', hd, hbits⟩ := drop_tells ha
  have hlen := drop_len ha
  refine ⟨hr', ?_, by omega, drop_lt _ _ hlt⟩
  rcases hd with hd | hd
  · exact .inl hd
  · rcases hc with rfl | ⟨hk', hc⟩
    · simp at hb
    · right; refine ⟨hk', ?_⟩
      rw [cls_div hr] at hc
      rw [cls_div hr', hd, hc]
theorem dropsI_next {c : Int} {n : Nat} {cnt : Int} (h : dropsI c n cnt) (h0 : 0 < cnt) (k : Nat) (hk : k < 16) (hb : n.testBit k = false) : nextS n c ≤ k := by
  obtain ⟨hr, hc, hl, hlt⟩ := h
  have hne : n ≠ 0 := fun e => by
    have := (listN_zero hr).2 e
    omega
  obtain ⟨hk', hc⟩ := hc.resolve_left hne
  unfold nextS lowS
  rw [if_pos ⟨hr, hk', .inr hc⟩]
  split
  · have hlt2 : takN n < 18446744073709551616 := by rw [takN_eq]; omega
    obtain ⟨_, h2, _⟩ := lowN_tells (takN n) hlt2
    rcases Nat.lt_or_ge k (lowN (takN n)) with h' | h'
    · have := h2 k h'
      rw [takN_eq, tb_low hk, hb] at this
      simp at this
    · omega
  · omega
set_option maxRecDepth 100000 in
set_option maxHeartbeats 3200000 in
theorem slabFills_known (c : Nat) (v : Value) (l : List Int) (w : World) (hI : Ints .u8 w v l) (hB : TabB w) (hZ : TabZ w) (h1 : l.length ≤ 100) (hc : c = 1 ∨ c = 2) :
    Calls Tryd.prog 9 #[.int .i64 (c : Int), v] w fun e w' => e = .returned (.bool true) ∧ Below w.heap.size w w' := by
  obtain ⟨a, cap, rfl⟩ := hI.slice
  have t1 : decide ((100 : Int) < (l.length : Int)) = false := by simp; omega
  obtain ⟨b, hb⟩ : ∃ b : Nat, b = blkNat c := ⟨_, rfl⟩
  have hcb : c = 1 ∧ b = 16 ∨ c = 2 ∧ b = 4 := by
    rcases hc with rfl | rfl
    · exact .inl ⟨rfl, hb⟩
    · exact .inr ⟨rfl, hb⟩
  have HCB := Lib.hid hcb
  have HBL : Hid (blkN (c : Int) = (b : Int)) := Lib.hid (by rcases hcb with ⟨rfl, rfl⟩ | ⟨rfl, rfl⟩ <;> rfl)
  have hb16 : b ≤ 16 := by omega
  have HI := Lib.hid hI
  have HTB := Lib.hid hB
  have HTZ := Lib.hid hZ
  clear hI hB hZ hb hcb hc
  go_enter Tryd.func9, Tryd.ntmps9
  go_wp2_with fail
  refine (salive_calls _ HTB.out HTZ.out).mono ?_
  rintro e w' ⟨rfl, m0, rfl⟩
  go_wp2_with fail
  refine (blocks_at _ b _ (HTB.out.drewN _) HBL.out).mono ?_
  rintro e w' ⟨rfl, rfl⟩
  go_wp2
  go_loopw [5, 22] (fun x i wr => ∃ k m : Nat, k ≤ b ∧ i = .int .i64 k ∧ x = .int .u64 ((fillN c k : Nat) : Int) ∧ wr = w.drewN m) (fun _ i _ => b - (intOf i).toNat)
  case atStart => exact ⟨0, m0, Nat.zero_le _, rfl, rfl, rfl⟩
  case round =>
    obtain ⟨k, m, hk, rfl, rfl, rfl⟩ := hrel
    have HFL : Hid (fillN c k < 18446744073709551616) := Lib.hid (fill_lt c k (by have := HCB.out; omega) (by omega))
    by_cases hlt : k < b
    · have HNX := Lib.hid (fill_next c k (by have := HCB.out; omega))
      have HTK := Lib.hid (fill_take c k (by have := HCB.out; omega))
      have HTP := Lib.hid (decide_eq_true (fill_takeP c k (by have := HCB.out; omega)))
      generalize fillN c k = n at *
      go_wp2_with fail
      refine (next_at _ _ (k : Int) n _ rfl HFL.out (HTB.out.drewN _) (HTZ.out.drewN _) HNX.out).mono ?_
      rintro e w' ⟨rfl, m1, rfl⟩
      go_wp2_with fail
      refine (take_at _ _ _ n (fillN c (k + 1)) _ _ rfl HFL.out (HTB.out.drewN _) HTK.out HTP.out).mono ?_
      rintro e w' ⟨rfl, m2, rfl⟩
      go_wp2
      go_roundw
      case rel => exact ⟨k + 1, _, hlt, by go_num, rfl, rfl⟩
      case measure => simp [intOf]; omega
    · obtain rfl : k = b := by omega
      have HNX := Lib.hid (fill_full c k (by have := HCB.out; omega))
      have HDI : Hid (dropsI (c : Int) (fillN c k) (k : Int)) := Lib.hid (by
        have hcb := HCB.out
        have hr := fill_right c k (by omega)
        refine ⟨hr, .inr ⟨by unfold knownP; omega, ?_⟩, by rw [fill_len c (by omega) k (by omega)], HFL.out⟩
        rw [cls_div hr, (fill_parts c k (by omega) (by omega)).1])
      generalize fillN c k = n at *
      go_wp2_with fail
      refine (next_at _ _ (-1) n _ rfl HFL.out (HTB.out.drewN _) (HTZ.out.drewN _) HNX.out).mono ?_
      rintro e w' ⟨rfl, m1, rfl⟩
      go_wp2_with fail
      refine (blocks_at _ k _ (HTB.out.drewN _) HBL.out).mono ?_
      rintro e w' ⟨rfl, rfl⟩
      go_wp2
      go_loopw [5, 10, 52] (fun x y i wr => ∃ (j m n' : Nat) (cnt : Int), j ≤ l.length ∧ i = .int .i64 j ∧ x = .int .u64 (n' : Int) ∧ y = .int .i64 cnt ∧ dropsI (c : Int) n' cnt ∧ wr = w.drewN m) (fun _ _ i _ => l.length - (intOf i).toNat)
      case atStart => exact ⟨0, _, n, (k : Int), Nat.zero_le _, rfl, rfl, rfl, HDI.out, rfl⟩
      case round =>
        clear HNX HDI HFL
        obtain ⟨j, m, n, cnt, hj, rfl, rfl, rfl, hdi, rfl⟩ := hrel
        have HDI := Lib.hid hdi
        have HFL := Lib.hid hdi.2.2.2
        have hcnt : 0 ≤ cnt ∧ cnt ≤ 16 := by
          have h1 := hdi.2.2.1
          have h2 := listN_len n
          omega
        clear hdi
        by_cases hlt : j < l.length
        · obtain ⟨b0, o0, rfl, hz1, hx⟩ := HI.out.row j hlt
          clear hz1
          have ⟨y0, y1⟩ := at_bd HI.out.bd j hlt
          generalize l.getD j 0 = y at *
          obtain ⟨q, hq⟩ : ∃ q : Nat, y % 16 = (q : Int) := ⟨(y % 16).toNat, by omega⟩
          have hq16 : q < 16 := by omega
          cases hh : hasB n (q : Int)
          · have HH := Lib.hid hh
            have HD : Hid (dropN n (q : Int) = n) := Lib.hid (by unfold dropN; rw [hh]; rfl)
            clear hh
            go_wp2_with fail
            refine (drop_at _ _ n n _ _ rfl HFL.out (HTB.out.drewN _) HD.out HH.out).mono ?_
            rintro e w' ⟨rfl, m1, rfl⟩
            go_wp2_with fail
            refine (has_at _ _ n _ _ rfl HFL.out (HTB.out.drewN _) HH.out).mono ?_
            rintro e w' ⟨rfl, m2, rfl⟩
            go_wp2
            go_roundw
            case rel => exact ⟨j + 1, _, n, cnt, hlt, by go_num, rfl, rfl, HDI.out, rfl⟩
            case measure => simp [intOf]; omega
          · have HH := Lib.hid hh
            have hdl := dropsI_step HDI.out hh
            have hb : (dropN n (q : Int)).testBit q = false := by
              obtain ⟨q', e, _, _, _, _, _, hbits⟩ := drop_tells hh
              obtain rfl : q = q' := by omega
              rw [hbits q hq16]; simp
            have hc1 : 1 ≤ cnt := by
              have h1 := HDI.out.2.2.1
              have h2 := drop_len hh
              omega
            have hnx : 0 < cnt - 1 → nextS (dropN n (q : Int)) (c : Int) ≤ q := fun h => dropsI_next hdl h q hq16 hb
            have HDL := Lib.hid hdl
            have HDF := Lib.hid hdl.2.2.2
            obtain ⟨d, hd⟩ : ∃ d, dropN n (q : Int) = d := ⟨_, rfl⟩
            have HD := Lib.hid hd
            rw [hd] at HDL HDF hnx
            clear hh hdl hb hd
            by_cases hpos : 0 < cnt - 1
            · have hle := hnx hpos
              obtain ⟨r, hr⟩ : ∃ r, nextS d (c : Int) = r := ⟨_, rfl⟩
              rw [hr] at hle
              have HR := Lib.hid hr
              clear hnx hr
              go_wp2_with fail
              refine (drop_at _ _ n d _ _ rfl HFL.out (HTB.out.drewN _) HD.out HH.out).mono ?_
              rintro e w' ⟨rfl, m1, rfl⟩
              go_wp2_with fail
              refine (has_at _ _ n _ _ rfl HFL.out (HTB.out.drewN _) HH.out).mono ?_
              rintro e w' ⟨rfl, m2, rfl⟩
              go_wp2_with fail
              refine (next_at _ _ r d _ rfl HDF.out (HTB.out.drewN _) (HTZ.out.drewN _) HR.out).mono ?_
              rintro e w' ⟨rfl, m3, rfl⟩
              go_wp2
              go_roundw
              case rel => exact ⟨j + 1, _, d, cnt - 1, hlt, by go_num, rfl, rfl, HDL.out, rfl⟩
              case measure => simp [intOf]; omega
            · clear hnx
              go_wp2_with fail
              refine (drop_at _ _ n d _ _ rfl HFL.out (HTB.out.drewN _) HD.out HH.out).mono ?_
              rintro e w' ⟨rfl, m1, rfl⟩
              go_wp2_with fail
              refine (has_at _ _ n _ _ rfl HFL.out (HTB.out.drewN _) HH.out).mono ?_
              rintro e w' ⟨rfl, m2, rfl⟩
              go_wp2
              go_roundw
              case rel => exact ⟨j + 1, _, d, cnt - 1, hlt, by go_num, rfl, rfl, HDL.out, rfl⟩
              case measure => simp [intOf]; omega
        · obtain rfl : j = l.length := by omega
          go_wp2_with fail
          refine (list_at _ n _ rfl HFL.out (HTB.out.drewN _)).mono ?_
          rintro e w5 ⟨v5, rfl, ho5, hb5⟩
          obtain ⟨a5, cap5, rfl⟩ := ho5.slice
          have HB5 := Lib.hid ((below_drewN (Below.refl w.heap.size w) _).trans hb5)
          have hlen : ((listN n).length : Int) = cnt := HDI.out.2.2.1.symm
          have hzz : ((n : Int) == 0) = (cnt == 0) := by
            have h := listN_zero HDI.out.1
            rw [Bool.eq_iff_iff, beq_iff_eq, beq_iff_eq]
            omega
          clear ho5 hb5
          go_wp2
          go_ret
          exact ⟨rfl, HB5.out⟩
set_option maxRecDepth 100000 in
set_option maxHeartbeats 3200000 in
theorem slabFills_none (c : Int) (v : Value) (l : List Int) (w : World) (hI : Ints .u8 w v l) (hB : TabB w) (hZ : TabZ w) (h1 : l.length ≤ 100) (hc : ¬ knownP c) :
    Calls Tryd.prog 9 #[.int .i64 c, v] w fun e w' => e = .returned (.bool true) ∧ Below w.heap.size w w' := by
  obtain ⟨a, cap, rfl⟩ := hI.slice
  have t1 : decide ((100 : Int) < (l.length : Int)) = false := by simp; omega
  have HBL : Hid (blkN c = 0) := Lib.hid (by unfold knownP at hc; unfold blkN; rw [if_neg (by omega), if_neg (by omega)])
  have HNX : Hid (nextS 0 c = -1) := Lib.hid (by unfold nextS; rw [if_neg (fun h => hc h.2.1)])
  have HDI0 : Hid (dropsI c 0 0) := Lib.hid ⟨.inl rfl, .inl rfl, by rw [(listN_zero (.inl rfl)).2 rfl]; rfl, by omega⟩
  have HI := Lib.hid hI
  have HTB := Lib.hid hB
  have HTZ := Lib.hid hZ
  have HCC := Lib.hid hc
  clear hI hB hZ hc
  go_enter Tryd.func9, Tryd.ntmps9
  go_wp2_with fail
  refine (salive_calls _ HTB.out HTZ.out).mono ?_
  rintro e w' ⟨rfl, m0, rfl⟩
  go_wp2_with fail
  refine (blocks_at _ 0 _ (HTB.out.drewN _) HBL.out).mono ?_
  rintro e w' ⟨rfl, rfl⟩
  go_wp2
  go_loopw [5, 22] (fun x i wr => i = .int .i64 0 ∧ x = .int .u64 0 ∧ wr = w.drewN m0) (fun _ _ _ => 0)
  case atStart => exact ⟨rfl, rfl, rfl⟩
  case round =>
    obtain ⟨rfl, rfl, rfl⟩ := hrel
    go_wp2_with fail
    refine (next_at _ _ (-1) 0 _ rfl lit_z0 (HTB.out.drewN _) (HTZ.out.drewN _) HNX.out).mono ?_
    rintro e w' ⟨rfl, m1, rfl⟩
    go_wp2_with fail
    refine (blocks_at _ 0 _ (HTB.out.drewN _) HBL.out).mono ?_
    rintro e w' ⟨rfl, rfl⟩
    go_wp2
    go_loopw [5, 10, 52] (fun x y i wr => ∃ (j m : Nat), j ≤ l.length ∧ i = .int .i64 j ∧ x = .int .u64 0 ∧ y = .int .i64 0 ∧ wr = w.drewN m) (fun _ _ i _ => l.length - (intOf i).toNat)
    case atStart => exact ⟨0, _, Nat.zero_le _, rfl, rfl, rfl, rfl⟩
    case round =>
      obtain ⟨j, m, hj, rfl, rfl, rfl, rfl⟩ := hrel
      by_cases hlt : j < l.length
      · obtain ⟨b0, o0, rfl, hz1, hx⟩ := HI.out.row j hlt
        clear hz1
        have ⟨y0, y1⟩ := at_bd HI.out.bd j hlt
        generalize l.getD j 0 = y at *
        obtain ⟨q, hq⟩ : ∃ q : Nat, y % 16 = (q : Int) := ⟨(y % 16).toNat, by omega⟩
        have HH : Hid (hasB 0 (q : Int) = false) := Lib.hid (by unfold hasB; simp)
        have HD : Hid (dropN 0 (q : Int) = 0) := Lib.hid (by unfold dropN; rw [HH.out]; rfl)
        go_wp2_with fail
        refine (drop_at _ _ 0 0 _ _ rfl lit_z0 (HTB.out.drewN _) HD.out HH.out).mono ?_
        rintro e w' ⟨rfl, m1, rfl⟩
        go_wp2_with fail
        refine (has_at _ _ 0 _ _ rfl lit_z0 (HTB.out.drewN _) HH.out).mono ?_
        rintro e w' ⟨rfl, m2, rfl⟩
        go_wp2
        go_roundw
        case rel => exact ⟨j + 1, _, hlt, by go_num, rfl, rfl, rfl⟩
        case measure => simp [intOf]; omega
      · obtain rfl : j = l.length := by omega
        go_wp2_with fail
        refine (list_at _ 0 _ rfl lit_z0 (HTB.out.drewN _)).mono ?_
        rintro e w5 ⟨v5, rfl, ho5, hb5⟩
        rw [List.eq_nil_of_length_eq_zero ((listN_zero (.inl rfl)).2 rfl)] at ho5
        obtain ⟨a5, cap5, rfl⟩ := ho5.slice
        have HB5 := Lib.hid ((below_drewN (Below.refl w.heap.size w) _).trans hb5)
        clear ho5 hb5
        go_wp2
        go_ret
        exact ⟨rfl, HB5.out⟩
theorem slabFills_out (c : Int) (v : Value) (l : List Int) (w : World) (hI : Ints .u8 w v l) (hB : TabB w) (hZ : TabZ w) (h1 : 100 < l.length) :
    Calls Tryd.prog 9 #[.int .i64 c, v] w fun e w' => e = .returned (.bool true) ∧ Below w.heap.size w w' := by
  obtain ⟨a, cap, rfl⟩ := hI.slice
  have t1 : decide ((100 : Int) < (l.length : Int)) = true := by simp; omega
  clear hI
  go_enter Tryd.func9, Tryd.ntmps9
  go_wp2_with fail
  refine (salive_calls _ hB hZ).mono ?_
  rintro e w' ⟨rfl, m0, rfl⟩
  go_wp2
  go_ret
  exact ⟨rfl, below_drewN (Below.refl _ _) _⟩
theorem slabFills_walk (c : Int) (_ : (Lit.int .i64 c).wf = true) (v : Value) (l : List Int) {w : World} (hI : Ints .u8 w v l) (hZ : TabZ w) (hB : TabB w) :
    Calls Tryd.prog 9 #[.int .i64 c, v] w fun e w' => e = .returned (.bool true) ∧ Below w.heap.size w w' := by
  by_cases h1 : l.length ≤ 100
  · by_cases hc : knownP c
    · obtain ⟨cn, rfl⟩ : ∃ cn : Nat, c = cn := ⟨c.toNat, by unfold knownP at hc; omega⟩
      exact slabFills_known cn v l w hI hB hZ h1 (by unfold knownP at hc; omega)
    · exact slabFills_none c v l w hI hB hZ h1 hc
  · exact slabFills_out c v l w hI hB hZ (by omega)
end Go.Proofs.YtkmkficnkiaajaaDoor
