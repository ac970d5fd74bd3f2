/- SLAB: the laws' walks without the document's answer: alive, SlabOrder, SlabWords. -/
import Derived.Test.YtkmkficnkiaajaaDoorSlabMath
namespace Go.Proofs.YtkmkficnkiaajaaDoor
open Go Go.RowKit

theorem sclass_at (x c : Int) (n : Nat) (w : World) (hx : x = n) (hn : n < 18446744073709551616) (hB : TabB w) (h : clsS n = c) : Calls Tryd.prog 32 #[.int .u64 x] w fun e w' => e = .returned (.int .i64 c) ∧ ∃ m, w' = w.drewN m := by
  subst hx h; exact sclass_calls n w hn hB
theorem list_at (x : Int) (n : Nat) (w : World) (hx : x = n) (hn : n < 18446744073709551616) (hB : TabB w) : Calls Tryd.prog 30 #[.int .u64 x] w fun e w' => ∃ v, e = .returned v ∧ Own .i64 3 w' w.heap.size v (listN n) ∧ Below w.heap.size w w' := by
  subst hx; exact list_calls n w hn hB
theorem lit_t1 : takeN 0 2 1 = 131074 := by decide +kernel
theorem lit_t2 : decide (takeP 0 2 1) = true := by decide +kernel
theorem lit_d1 : dropN 131074 1 = 0 := by decide +kernel
theorem lit_h1 : hasB 131074 1 = true := by decide +kernel
theorem lit_n1 : nextS 131074 2 = 0 := by decide +kernel
theorem lit_n2 : nextS 131074 1 = -1 := by decide +kernel
theorem lit_c1 : clsS 131074 = 2 := by decide +kernel
theorem lit_r1 : decide (rightP 131074) = true := by decide +kernel
theorem lit_b1 : blkN 1 = 16 := by decide +kernel
theorem lit_z : (131074 : Nat) < 18446744073709551616 := by omega
theorem lit_z0 : (0 : Nat) < 18446744073709551616 := by omega
set_option maxHeartbeats 800000 in
theorem salive_calls (w : World) (hB : TabB w) (hZ : TabZ w) : Calls Tryd.prog 22 #[] w fun e w' => e = .returned (.bool true) ∧ ∃ m, w' = w.drewN m := by
  have HB := Lib.hid hB
  have HZ := Lib.hid hZ
  clear hB hZ
  go_enter Tryd.func22, Tryd.ntmps22
  go_wp2_with fail
  refine (take_at _ _ _ 0 131074 true _ rfl lit_z0 HB.out lit_t1 lit_t2).mono ?_
  rintro e w' ⟨rfl, m1, rfl⟩
  go_wp2_with fail
  refine (drop_at _ _ 131074 0 true _ rfl lit_z (HB.out.drewN _) lit_d1 lit_h1).mono ?_
  rintro e w' ⟨rfl, m2, rfl⟩
  go_wp2_with fail
  refine (next_at _ _ 0 131074 _ rfl lit_z (HB.out.drewN _) (HZ.out.drewN _) lit_n1).mono ?_
  rintro e w' ⟨rfl, m3, rfl⟩
  go_wp2_with fail
  refine (next_at _ _ (-1) 131074 _ rfl lit_z (HB.out.drewN _) (HZ.out.drewN _) lit_n2).mono ?_
  rintro e w' ⟨rfl, m4, rfl⟩
  go_wp2_with fail
  refine (sclass_at _ 2 131074 _ rfl lit_z (HB.out.drewN _) lit_c1).mono ?_
  rintro e w' ⟨rfl, m5, rfl⟩
  go_wp2_with fail
  refine (has_at _ _ 131074 true _ rfl lit_z (HB.out.drewN _) lit_h1).mono ?_
  rintro e w' ⟨rfl, m6, rfl⟩
  go_wp2_with fail
  refine (sright_at _ 131074 true _ rfl lit_z (HB.out.drewN _) lit_r1).mono ?_
  rintro e w' ⟨rfl, m7, rfl⟩
  go_wp2_with fail
  refine (blocks_at _ 16 _ (HB.out.drewN _) lit_b1).mono ?_
  rintro e w' ⟨rfl, rfl⟩
  go_wp2
  go_ret
  exact ⟨rfl, _, rfl⟩
theorem take_lt (n : Nat) (c a : Int) (hn : n < 18446744073709551616) : takeN n c a < 18446744073709551616 := by
  unfold takeN; split
  · exact with_lt _ _ _ _
  · exact hn
theorem drop_lt (n : Nat) (a : Int) (hn : n < 18446744073709551616) : dropN n a < 18446744073709551616 := by
  unfold dropN; split
  · split
    · omega
    · exact with_lt _ _ _ _
  · exact hn
/-- two blocks, in whatever order -/
theorem take_order {n : Nat} {c a b : Int} (ha : takeP n c a) (hb : takeP n c b) (hab : a ≠ b) : takeP (takeN n c a) c b ∧ takeP (takeN n c b) c a ∧ takeN (takeN n c a) c b = takeN (takeN n c b) c a := by
  have key : ∀ a b : Int, takeP n c a → takeP n c b → a ≠ b → takeP (takeN n c a) c b := fun a b ha hb hab => by
    obtain ⟨k, cn, rfl, rfl, hk, hcn, hr, hd, hbits, hno, hrn, hcl⟩ := take_tells ha
    obtain ⟨k2, cn2, rfl, e, hk2, _, _, _, _, hno2, _, _⟩ := take_tells hb
    refine ⟨⟨hr, hb.1.2.1, .inr ?_⟩, hb.2.1, hb.2.2.1, ?_⟩
    · rw [cls_div hr, hd]
    · rw [hasB_nat hr k2 hk2, hbits k2 hk2, hno2]
      simp; omega
  have h1 := key a b ha hb hab
  have h2 := key b a hb ha (Ne.symm hab)
  refine ⟨h1, h2, ?_⟩
  obtain ⟨k, cn, rfl, rfl, hk, _, hr, hd, hbits, _, _, _⟩ := take_tells ha
  obtain ⟨k2, cn2, rfl, e, hk2, _, hr2, hd2, hbits2, _, _, _⟩ := take_tells hb
  obtain ⟨j, cj, e1, e2, _, _, hru, hdu, hbu, _, _, _⟩ := take_tells h1
  obtain ⟨j2, cj2, e3, e4, _, _, hrv, hdv, hbv, _, _, _⟩ := take_tells h2
  obtain rfl : k2 = j := by omega
  obtain rfl : k = j2 := by omega
  refine right_ext hru hrv (.inl (by rw [hdu, hdv]; omega)) fun i hi => ?_
  rw [hbu i hi, hbits i hi, hbv i hi, hbits2 i hi]
  cases n.testBit i <;> cases decide (i = k) <;> cases decide (i = k2) <;> rfl
set_option maxHeartbeats 1600000 in
theorem slabOrder_main (n : Nat) (c a b : Int) (w : World) (hn : n < 18446744073709551616) (hB : TabB w) (hZ : TabZ w) (h : ¬ (takeP n c a ∧ takeP n c b ∧ a ≠ b) ∨ (takeP n c a ∧ takeP n c b ∧ a ≠ b)) :
    Calls Tryd.prog 11 #[.agg #[.int .u64 n, .int .i64 c, .int .i64 a, .int .i64 b]] w fun e w' => e = .returned (.bool true) ∧ Below w.heap.size w w' := by
  have HN := Lib.hid hn
  have hba := (Below.refl w.heap.size w).alloc (Nat.le_refl _) (.cells #[.int .u64 n, .int .i64 c, .int .i64 a, .int .i64 b] 53)
  have HB0 := Lib.hid hba
  have HTB := Lib.hid (hB.below hba)
  have HTZ := Lib.hid (hZ.below hba)
  obtain ⟨x, hx⟩ : ∃ x, takeN n c a = x := ⟨_, rfl⟩
  obtain ⟨y, hy⟩ : ∃ y, takeN n c b = y := ⟨_, rfl⟩
  have HX := Lib.hid hx
  have HY := Lib.hid hy
  clear hba hB hZ
  rcases h with h | ⟨h1, h2, h3⟩
  · obtain ⟨p, hp⟩ : ∃ p, decide (takeP n c a) = p := ⟨_, rfl⟩
    obtain ⟨q, hq⟩ : ∃ q, decide (takeP n c b) = q := ⟨_, rfl⟩
    have HP := Lib.hid hp
    have HQ := Lib.hid hq
    have hcs : p = false ∨ p = true ∧ q = false ∨ p = true ∧ q = true ∧ a = b := by
      cases p
      · exact .inl rfl
      · cases q
        · exact .inr (.inl ⟨rfl, rfl⟩)
        · refine .inr (.inr ⟨rfl, rfl, ?_⟩)
          rcases Decidable.em (a = b) with e | e
          · exact e
          · exact absurd ⟨of_decide_eq_true hp, of_decide_eq_true hq, e⟩ h
    clear h hp hq hx hy hn
    rcases hcs with rfl | ⟨rfl, rfl⟩ | ⟨rfl, rfl, e⟩
    · go_enter Tryd.func11, Tryd.ntmps11
      go_wp2_with fail
      refine (salive_calls _ HTB.out HTZ.out).mono ?_
      rintro e w' ⟨rfl, m0, rfl⟩
      go_wp2
      go_quiet (fail)
      go_wp2_with fail
      refine (take_at _ _ _ n x _ _ rfl HN.out (HTB.out.drewN _) HX.out HP.out).mono ?_
      rintro e w' ⟨rfl, m1, rfl⟩
      go_wp2_with fail
      refine (take_at _ _ _ n y _ _ rfl HN.out (HTB.out.drewN _) HY.out HQ.out).mono ?_
      rintro e w' ⟨rfl, m2, rfl⟩
      go_wp2
      go_ret
      exact ⟨rfl, below_drewN HB0.out _⟩
    · go_enter Tryd.func11, Tryd.ntmps11
      go_wp2_with fail
      refine (salive_calls _ HTB.out HTZ.out).mono ?_
      rintro e w' ⟨rfl, m0, rfl⟩
      go_wp2
      go_quiet (fail)
      go_wp2_with fail
      refine (take_at _ _ _ n x _ _ rfl HN.out (HTB.out.drewN _) HX.out HP.out).mono ?_
      rintro e w' ⟨rfl, m1, rfl⟩
      go_wp2_with fail
      refine (take_at _ _ _ n y _ _ rfl HN.out (HTB.out.drewN _) HY.out HQ.out).mono ?_
      rintro e w' ⟨rfl, m2, rfl⟩
      go_wp2
      go_ret
      exact ⟨rfl, below_drewN HB0.out _⟩
    · have e1 : (a == b) = true := by simpa using e
      clear e
      go_enter Tryd.func11, Tryd.ntmps11
      go_wp2_with fail
      refine (salive_calls _ HTB.out HTZ.out).mono ?_
      rintro e w' ⟨rfl, m0, rfl⟩
      go_wp2
      go_quiet (fail)
      go_wp2_with fail
      refine (take_at _ _ _ n x _ _ rfl HN.out (HTB.out.drewN _) HX.out HP.out).mono ?_
      rintro e w' ⟨rfl, m1, rfl⟩
      go_wp2_with fail
      refine (take_at _ _ _ n y _ _ rfl HN.out (HTB.out.drewN _) HY.out HQ.out).mono ?_
      rintro e w' ⟨rfl, m2, rfl⟩
      go_wp2
      go_ret
      exact ⟨rfl, below_drewN HB0.out _⟩
  · obtain ⟨ho1, ho2, ho3⟩ := take_order h1 h2 h3
    obtain ⟨u, hu⟩ : ∃ u, takeN (takeN n c a) c b = u := ⟨_, rfl⟩
    rw [hu] at ho3
    have hlen : (listN u).length = (listN n).length + 2 := by rw [← hu, take_len ho1, take_len h1]
    rw [hx] at ho1 hu
    rw [hy] at ho2 ho3
    have HP := Lib.hid (decide_eq_true h1)
    have HQ := Lib.hid (decide_eq_true h2)
    have HP2 := Lib.hid (decide_eq_true ho1)
    have HQ2 := Lib.hid (decide_eq_true ho2)
    have HU := Lib.hid hu
    have HV := Lib.hid ho3.symm
    have HXL : Hid (x < 18446744073709551616) := Lib.hid (by rw [← hx]; exact take_lt _ _ _ hn)
    have HYL : Hid (y < 18446744073709551616) := Lib.hid (by rw [← hy]; exact take_lt _ _ _ hn)
    have HUL : Hid (u < 18446744073709551616) := Lib.hid (by rw [← hu]; exact take_lt _ _ _ HXL.out)
    have HLEN : Hid (((listN u).length : Int) = ((listN n).length : Int) + 2) := Lib.hid (by omega)
    have HLE := Lib.hid (listN_len n)
    have HLE2 := Lib.hid (listN_len u)
    have e1 : (a == b) = false := by simpa using h3
    clear h1 h2 h3 ho1 ho2 ho3 hu hx hy hn hlen
    go_enter Tryd.func11, Tryd.ntmps11
    go_wp2_with fail
    refine (salive_calls _ HTB.out HTZ.out).mono ?_
    rintro e w' ⟨rfl, m0, rfl⟩
    go_wp2
    go_quiet (fail)
    go_wp2_with fail
    refine (take_at _ _ _ n x _ _ rfl HN.out (HTB.out.drewN _) HX.out HP.out).mono ?_
    rintro e w' ⟨rfl, m1, rfl⟩
    go_wp2_with fail
    refine (take_at _ _ _ n y _ _ rfl HN.out (HTB.out.drewN _) HY.out HQ.out).mono ?_
    rintro e w' ⟨rfl, m2, rfl⟩
    go_wp2_with fail
    refine (take_at _ _ _ x u _ _ rfl HXL.out (HTB.out.drewN _) HU.out HP2.out).mono ?_
    rintro e w' ⟨rfl, m3, rfl⟩
    go_wp2_with fail
    refine (take_at _ _ _ y u _ _ rfl HYL.out (HTB.out.drewN _) HV.out HQ2.out).mono ?_
    rintro e w' ⟨rfl, m4, rfl⟩
    go_wp2_with fail
    refine (list_at _ u _ rfl HUL.out (HTB.out.drewN _)).mono ?_
    rintro e w5 ⟨v5, rfl, ho5, hb5⟩
    obtain ⟨a5, cap5, rfl⟩ := ho5.slice
    have HB5 := Lib.hid ((below_drewN HB0.out _).trans (hb5.mono (by simp)))
    have HTB5 := Lib.hid ((HTB.out.drewN _).below hb5)
    clear ho5 hb5
    go_wp2_with fail
    refine (list_at _ n _ rfl HN.out HTB5.out).mono ?_
    rintro e w6 ⟨v6, rfl, ho6, hb6⟩
    obtain ⟨a6, cap6, rfl⟩ := ho6.slice
    have HB6 := Lib.hid (below_next HB5.out hb6)
    clear ho6 hb6
    have hl := HLEN.out
    have hl2 := HLE.out
    generalize (listN u).length = lu at *
    generalize (listN n).length = ln at *
    go_wp2
    go_ret
    exact ⟨rfl, HB6.out⟩
theorem slabOrder_walk (n c a b : Int) (hn : (Lit.int .u64 n).wf = true) (_ : (Lit.int .i64 c).wf = true) (_ : (Lit.int .i64 a).wf = true) (_ : (Lit.int .i64 b).wf = true) {w : World} (hZ : TabZ w) (hB : TabB w) :
    Calls Tryd.prog 11 #[.agg #[.int .u64 n, .int .i64 c, .int .i64 a, .int .i64 b]] w fun e w' => e = .returned (.bool true) ∧ Below w.heap.size w w' := by
  obtain ⟨n, rfl, hn'⟩ := nat_u64 (bd_u64 hn)
  exact slabOrder_main n c a b w hn' hB hZ (Decidable.em _).symm
/-- SlabWords -/
theorem ints_eq_step {x y : List Int} (hl : x.length = y.length) : (∀ j, j < x.length → x.getD j 0 = y.getD j 0) ↔ x = y := by
  constructor
  · intro h
    apply List.ext_getElem hl
    intro i h1 h2
    have := h i h1
    simpa [h1, h2] using this
  · rintro rfl _ _; rfl
theorem clsS_bd (n : Nat) : 0 ≤ clsS n ∧ clsS n ≤ 3 := by
  unfold clsS
  have : clsN n < 4 := by rw [clsN_eq]; omega
  split <;> omega
set_option maxHeartbeats 1600000 in
theorem slabWords_un (v n : Nat) (w : World) (hv : v < 18446744073709551616) (hn : n < 18446744073709551616) (hB : TabB w) (hZ : TabZ w) (h : ¬ rightP v ∨ rightP v ∧ ¬ rightP n) :
    Calls Tryd.prog 10 #[.int .u64 v, .int .u64 n] w fun e w' => e = .returned (.bool true) ∧ Below w.heap.size w w' := by
  have HV := Lib.hid hv
  have HN := Lib.hid hn
  have HTB := Lib.hid hB
  have HTZ := Lib.hid hZ
  have hz : ((listN v).length : Int) * ((listN n).length : Int) = 0 := by
    rcases h with h | ⟨_, h⟩
    · rw [listN_not h]; simp
    · rw [listN_not h]; simp
  have HZ0 := Lib.hid hz
  have HL1 := Lib.hid (listN_len v)
  have HL2 := Lib.hid (listN_len n)
  clear hv hn hB hZ hz
  rcases h with h | ⟨h, h'⟩
  · have HR := Lib.hid (decide_eq_false h)
    clear h
    go_enter Tryd.func10, Tryd.ntmps10
    go_wp2_with fail
    refine (salive_calls _ HTB.out HTZ.out).mono ?_
    rintro e w' ⟨rfl, m0, rfl⟩
    go_wp2_with fail
    refine (sright_at _ v _ _ rfl HV.out (HTB.out.drewN _) HR.out).mono ?_
    rintro e w' ⟨rfl, m1, rfl⟩
    go_wp2_with fail
    refine (list_at _ v _ rfl HV.out (HTB.out.drewN _)).mono ?_
    rintro e w3 ⟨v3, rfl, ho3, hb3⟩
    obtain ⟨a3, cap3, rfl⟩ := ho3.slice
    have HB3 := Lib.hid ((below_drewN (Below.refl w.heap.size w) _).trans hb3)
    have HTB3 := Lib.hid ((HTB.out.drewN _).below hb3)
    clear ho3 hb3
    go_wp2_with fail
    refine (list_at _ n _ rfl HN.out HTB3.out).mono ?_
    rintro e w4 ⟨v4, rfl, ho4, hb4⟩
    obtain ⟨a4, cap4, rfl⟩ := ho4.slice
    have HB4 := Lib.hid (below_next HB3.out hb4)
    clear ho4 hb4
    have hz := HZ0.out
    have hl1 := HL1.out
    have hl2 := HL2.out
    generalize (listN v).length = lv at *
    generalize (listN n).length = ln at *
    have hw : wrap64 ((lv : Int) * (ln : Int)) = 0 := by rw [hz]; unfold wrap64; rfl
    go_wp2
    go_ret
    exact ⟨rfl, HB4.out⟩
  · have HR := Lib.hid (decide_eq_true h)
    have HR2 := Lib.hid (decide_eq_false h')
    clear h h'
    go_enter Tryd.func10, Tryd.ntmps10
    go_wp2_with fail
    refine (salive_calls _ HTB.out HTZ.out).mono ?_
    rintro e w' ⟨rfl, m0, rfl⟩
    go_wp2_with fail
    refine (sright_at _ v _ _ rfl HV.out (HTB.out.drewN _) HR.out).mono ?_
    rintro e w' ⟨rfl, m1, rfl⟩
    go_wp2_with fail
    refine (sright_at _ n _ _ rfl HN.out (HTB.out.drewN _) HR2.out).mono ?_
    rintro e w' ⟨rfl, m2, rfl⟩
    go_wp2_with fail
    refine (list_at _ v _ rfl HV.out (HTB.out.drewN _)).mono ?_
    rintro e w3 ⟨v3, rfl, ho3, hb3⟩
    obtain ⟨a3, cap3, rfl⟩ := ho3.slice
    have HB3 := Lib.hid ((below_drewN (Below.refl w.heap.size w) _).trans hb3)
    have HTB3 := Lib.hid ((HTB.out.drewN _).below hb3)
    clear ho3 hb3
    go_wp2_with fail
    refine (list_at _ n _ rfl HN.out HTB3.out).mono ?_
    rintro e w4 ⟨v4, rfl, ho4, hb4⟩
    obtain ⟨a4, cap4, rfl⟩ := ho4.slice
    have HB4 := Lib.hid (below_next HB3.out hb4)
    clear ho4 hb4
    have hz := HZ0.out
    have hl1 := HL1.out
    have hl2 := HL2.out
    generalize (listN v).length = lv at *
    generalize (listN n).length = ln at *
    have hw : wrap64 ((lv : Int) * (ln : Int)) = 0 := by rw [hz]; unfold wrap64; rfl
    go_wp2
    go_ret
    exact ⟨rfl, HB4.out⟩
set_option maxHeartbeats 1600000 in
theorem slabWords_in (v n : Nat) (w : World) (hv : v < 18446744073709551616) (hn : n < 18446744073709551616) (hB : TabB w) (hZ : TabZ w) (h1 : rightP v) (h2 : rightP n) :
    Calls Tryd.prog 10 #[.int .u64 v, .int .u64 n] w fun e w' => e = .returned (.bool true) ∧ Below w.heap.size w w' := by
  have HV := Lib.hid hv
  have HN := Lib.hid hn
  have HTB := Lib.hid hB
  have HTZ := Lib.hid hZ
  have HR := Lib.hid (decide_eq_true h1)
  have HR2 := Lib.hid (decide_eq_true h2)
  have HEQ := Lib.hid (listN_eq h1 h2)
  have HL1 := Lib.hid (listN_len v)
  have HL2 := Lib.hid (listN_len n)
  obtain ⟨c1, hc1⟩ : ∃ c, clsS v = c := ⟨_, rfl⟩
  obtain ⟨c2, hc2⟩ : ∃ c, clsS n = c := ⟨_, rfl⟩
  have HC1 := Lib.hid hc1
  have HC2 := Lib.hid hc2
  rw [hc1, hc2] at HEQ
  clear hv hn hB hZ h1 h2 hc1 hc2
  go_enter Tryd.func10, Tryd.ntmps10
  go_wp2_with fail
  refine (salive_calls _ HTB.out HTZ.out).mono ?_
  rintro e w' ⟨rfl, m0, rfl⟩
  go_wp2_with fail
  refine (sright_at _ v _ _ rfl HV.out (HTB.out.drewN _) HR.out).mono ?_
  rintro e w' ⟨rfl, m1, rfl⟩
  go_wp2_with fail
  refine (sright_at _ n _ _ rfl HN.out (HTB.out.drewN _) HR2.out).mono ?_
  rintro e w' ⟨rfl, m2, rfl⟩
  go_wp2_with fail
  refine (list_at _ v _ rfl HV.out (HTB.out.drewN _)).mono ?_
  rintro e w3 ⟨v3, rfl, ho3, hb3⟩
  have HB3 := Lib.hid ((below_drewN (Below.refl w.heap.size w) _).trans hb3)
  have HTB3 := Lib.hid ((HTB.out.drewN _).below hb3)
  have HI3 := Lib.hid (ho3.ints (by have := HL1.out; omega))
  obtain ⟨a3, cap3, rfl⟩ := ho3.slice
  clear ho3 hb3
  go_wp2_with fail
  refine (list_at _ n _ rfl HN.out HTB3.out).mono ?_
  rintro e w4 ⟨v4, rfl, ho4, hb4⟩
  have HB4 := Lib.hid (below_next HB3.out hb4)
  have HTB4 := Lib.hid (HTB3.out.below hb4)
  have HI4 := Lib.hid (ho4.ints (by have := HL2.out; omega))
  have HI34 := Lib.hid (HI3.out.below hb4)
  obtain ⟨a4, cap4, rfl⟩ := ho4.slice
  clear ho4 hb4
  go_wp2_with fail
  refine (sclass_at _ c1 v _ rfl HV.out HTB4.out HC1.out).mono ?_
  rintro e w' ⟨rfl, m5, rfl⟩
  go_wp2_with fail
  refine (sclass_at _ c2 n _ rfl HN.out (HTB4.out.drewN _) HC2.out).mono ?_
  rintro e w' ⟨rfl, m6, rfl⟩
  have HB6 := Lib.hid (below_drewN HB4.out (m5 + m6))
  have hl1 := HL1.out
  have hl2 := HL2.out
  by_cases hc : c1 = c2
  · by_cases hl : (listN v).length = (listN n).length
    · have hiff : (∀ j, j < (listN v).length → (listN v).getD j 0 = (listN n).getD j 0) ↔ v = n := by
        rw [ints_eq_step hl, ← HEQ.out]
        exact ⟨fun h => ⟨hc, h⟩, fun h => h.2⟩
      have HIF := Lib.hid hiff
      have e1 : (c1 == c2) = true := by simpa using hc
      rw [← hl] at HI4 ⊢
      have HLL := Lib.hid hl
      have hcap3 := HI34.out.cap_le
      have hcap4 := HI4.out.cap_le
      rw [← hl] at hcap4
      clear hc hl hiff HEQ
      go_wp2
      have HI3e := HI34
      have HI4e := HI4
      have HBW : Hid (∀ m, Below w.heap.size w (w4.drewN m)) := Lib.hid (fun m => below_drewN HB4.out m)
      generalize listN v = X at *
      generalize listN n = Y at *
      go_loopw [7, 8] (fun x i wr => ∃ (k m : Nat) (b : Bool), k ≤ X.length ∧ x = .bool b ∧ i = .int .i64 k ∧ (b = true → ∀ j, j < k → X.getD j 0 = Y.getD j 0) ∧ (b = false → v ≠ n) ∧ wr = w4.drewN m) (fun _ i _ => X.length - (intOf i).toNat)
      case atStart => exact ⟨0, m5 + m6, true, Nat.zero_le _, rfl, rfl, fun _ j hj => absurd hj (by omega), (fun h => by cases h), rfl⟩
      case round =>
        obtain ⟨k, m, b, hk, rfl, rfl, hyes, hno, rfl⟩ := hrel
        cases b
        · have hne := hno rfl
          have e3 : ((v : Int) == (n : Int)) = false := by rw [beq_eq_false_iff_ne]; omega
          clear hyes hno hne
          go_wp2
          go_ret
          exact ⟨rfl, HBW.out m⟩
        · have HYES := Lib.hid (hyes rfl)
          clear hyes hno
          by_cases hlt : k < X.length
          · obtain ⟨b3, o3, rfl, hz1, hx⟩ := HI34.out.row k hlt
            obtain ⟨b4, o4, rfl, hz2, hy⟩ := HI4.out.row k (by rw [← HLL.out]; exact hlt)
            clear hz1 hz2
            have hst : X.getD k 0 = Y.getD k 0 → ∀ j, j < k + 1 → X.getD j 0 = Y.getD j 0 := fun h j hj => by
              rcases Nat.lt_or_ge j k with h' | h'
              · exact HYES.out j h'
              · obtain rfl : j = k := by omega
                exact h
            have hst2 : X.getD k 0 ≠ Y.getD k 0 → v ≠ n := fun h e => h (HIF.out.2 e k hlt)
            have HST := Lib.hid hst
            have HST2 := Lib.hid hst2
            clear hst hst2
            generalize X.getD k 0 = p at *
            generalize Y.getD k 0 = q at *
            by_cases hpq : p = q
            · have e1 : (p == q) = true := by simpa using hpq
              have HPQ := Lib.hid hpq
              clear hpq
              go_wp2
              go_quiet (fail)
              go_wp2
              go_roundw
              case rel => exact ⟨k + 1, _, true, hlt, rfl, by go_num, fun _ => HST.out HPQ.out, (fun h => by cases h), rfl⟩
              case measure => simp [intOf]; omega
            · have e1 : (p == q) = false := by simpa using hpq
              have HPQ := Lib.hid hpq
              clear hpq
              go_wp2
              go_quiet (fail)
              go_wp2
              go_roundw
              case rel => exact ⟨k + 1, _, false, hlt, rfl, by go_num, (fun h => by cases h), fun _ => HST2.out HPQ.out, rfl⟩
              case measure => simp [intOf]; omega
          · obtain rfl : k = X.length := by omega
            have he := HIF.out.1 HYES.out
            have e3 : ((v : Int) == (n : Int)) = true := by rw [beq_iff_eq]; omega
            clear he
            go_wp2
            go_ret
            exact ⟨rfl, HBW.out m⟩
    · have hne : v ≠ n := fun e => hl (by rw [e])
      have e1 : (c1 == c2) = true := by simpa using hc
      have e2 : (((listN v).length : Int) == ((listN n).length : Int)) = false := by rw [beq_eq_false_iff_ne]; omega
      have e3 : ((v : Int) == (n : Int)) = false := by rw [beq_eq_false_iff_ne]; omega
      clear hc hl hne HEQ
      go_wp2
      go_loopw [7, 8] (fun x i wr => x = .bool false ∧ i = .int .i64 0 ∧ wr = w4.drewN (m5 + m6)) (fun _ _ _ => 0)
      case atStart => exact ⟨rfl, rfl, rfl⟩
      case round =>
        obtain ⟨rfl, rfl, rfl⟩ := hrel
        go_wp2
        go_ret
        exact ⟨rfl, HB6.out⟩
  · have hne : v ≠ n := fun e => hc ((HEQ.out.2 e).1)
    have e1 : (c1 == c2) = false := by simpa using hc
    have e3 : ((v : Int) == (n : Int)) = false := by rw [beq_eq_false_iff_ne]; omega
    clear hc hne HEQ
    go_wp2
    go_loopw [7, 8] (fun x i wr => x = .bool false ∧ i = .int .i64 0 ∧ wr = w4.drewN (m5 + m6)) (fun _ _ _ => 0)
    case atStart => exact ⟨rfl, rfl, rfl⟩
    case round =>
      obtain ⟨rfl, rfl, rfl⟩ := hrel
      go_wp2
      go_ret
      exact ⟨rfl, HB6.out⟩
theorem slabWords_walk (v : Int) (hv : (Lit.int .u64 v).wf = true) (n : Int) (hn : (Lit.int .u64 n).wf = true) {w : World} (hZ : TabZ w) (hB : TabB w) :
    Calls Tryd.prog 10 #[.int .u64 v, .int .u64 n] w fun e w' => e = .returned (.bool true) ∧ Below w.heap.size w w' := by
  obtain ⟨v, rfl, hv'⟩ := nat_u64 (bd_u64 hv)
  obtain ⟨n, rfl, hn'⟩ := nat_u64 (bd_u64 hn)
  by_cases h1 : rightP v
  · by_cases h2 : rightP n
    · exact slabWords_in v n w hv' hn' hB hZ h1 h2
    · exact slabWords_un v n w hv' hn' hB hZ (.inr ⟨h1, h2⟩)
  · exact slabWords_un v n w hv' hn' hB hZ (.inl h1)
end Go.Proofs.YtkmkficnkiaajaaDoor
