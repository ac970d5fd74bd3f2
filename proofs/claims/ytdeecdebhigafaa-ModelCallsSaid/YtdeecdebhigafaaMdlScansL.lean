/- MODEL: the walk of ModelScans. -/
import Derived.Test.YtdeecdebhigafaaMdlHad
import Derived.Test.YtdeecdebhigafaaHeld
namespace Go.Proofs.Ytdeecdebhigafaa
open Go Go.RowKit Go.Maps Go.WideMaps
set_option linter.unusedSimpArgs false

theorem World.ownsMap.drewN' {H : Type} {P : Program} {k : TypeId} {R : Value → Option (DataW H × List MemPlace)} {w : World} {b n : Nat} {D : DataW H} (h : w.ownsMap P k R b n D) (m : Nat) : (w.drewN m).ownsMap P k R b n D := h
theorem take_new {l : List Pr} {k : Nat} {p q : Pr} (h3 : ∀ (i : Nat) p q, l[i]? = some p → l[i + 1]? = some q → kb p.key < kb q.key) (hp : l[k]? = some p) (hq : q ∈ l.take k) (he : kb q.key = kb p.key) : False := by
  obtain ⟨i, hi⟩ := List.mem_iff_getElem?.1 hq
  rw [List.getElem?_take] at hi
  split at hi
  · rename_i hik
    have gen : ∀ (d i : Nat) x y, l[i]? = some x → l[i + d + 1]? = some y → kb x.key < kb y.key := by
      intro d
      induction d with
      | zero => intro i x y hx hy; exact h3 i x y hx hy
      | succ d ih =>
        intro i x y hx hy
        have hlt : i + d + 1 < l.length := by have := (List.getElem?_eq_some_iff.1 hy).1; omega
        exact ltL_trans (ih i x _ hx (List.getElem?_eq_getElem hlt)) (h3 (i + d + 1) _ y (List.getElem?_eq_getElem hlt) hy)
    have := gen (k - i - 1) i q p hi (by rw [show i + (k - i - 1) + 1 = k by omega]; exact hp)
    rw [he] at this
    exact ltL_irrefl _ this
  · cases hi
set_option maxRecDepth 100000 in
set_option maxHeartbeats 4000000 in
theorem modelScans_walk (v u : Value) (cs : List Ct) (ks : List ByteArray) (at' : Nat) (w : World) (hI : Coms w v cs) (hst : ∀ c ∈ cs, c.stamp < 18446744073709551616) (hk : Rows ES w u ks) (hkz : ∀ k ∈ ks, k.size ≤ 140737488351232) :
    Calls Try.prog 5 #[v, u, .int .u64 (at' : Int)] w fun e w' => e = .returned (.bool true) ∧ Below w.heap.size w w' := by
  obtain ⟨a0, q0, rfl⟩ := hI.slice
  have HI := Lib.hid hI
  have HST := Lib.hid hst
  obtain ⟨ak, qk, rfl⟩ := hk.slice
  have HK := Lib.hid hk
  have HKZ := Lib.hid hkz
  have HB : Hid (Below w.heap.size w w) := Lib.hid (Below.refl _ _)
  clear hI hst hk hkz
  go_enter Try.func5, Try.ntmps5
  go_wp2_with fail
  refine (alive16_calls _).mono ?_
  rintro e u1 ⟨rfl, hb⟩
  replace HI := Lib.hid (HI.out.below hb)
  replace HK := Lib.hid (HK.out.below hb)
  replace HB := Lib.hid (HB.out.trans (hb.mono HB.out.size))
  clear hb
  go_wp2_with fail
  refine (few16_calls _ cs _ HI.out).mono ?_
  rintro e u2 ⟨r, rfl, hr, hb⟩
  replace HI := Lib.hid (HI.out.below hb)
  replace HK := Lib.hid (HK.out.below hb)
  replace HB := Lib.hid (HB.out.trans (hb.mono HB.out.size))
  clear hb
  have HR := Lib.hid hr
  clear hr
  cases r
  · go_wp2
    go_ret
    exact ⟨rfl, HB.out⟩
  have HF : Hid (FewA cs) := Lib.hid (HR.out.1 (by trivial))
  clear HR
  by_cases h100 : ks.length ≤ 100
  rotate_left
  · have t1 : decide ((100 : Int) < (ks.length : Int)) = true := by apply decide_eq_true; omega
    go_wp2
    go_ret
    exact ⟨rfl, HB.out⟩
  have t1 : decide ((100 : Int) < (ks.length : Int)) = false := by apply decide_eq_false; omega
  have H100 := Lib.hid h100
  clear h100
  go_wp2_with fail
  refine (theirs16_calls _ cs _ HI.out (HF.out.le60) (by have := HF.out.2.1; omega)).mono ?_
  rintro e u3 ⟨vm, rfl, hm, hb⟩
  replace HI := Lib.hid (HI.out.below hb)
  replace HK := Lib.hid (HK.out.below hb)
  replace HB := Lib.hid (HB.out.trans (hb.mono HB.out.size))
  have HM := Lib.hid (hm)
  clear hb
  clear hm
  obtain ⟨am, qm, rfl⟩ := HM.out.slice
  have HFC : Hid (FewC cs) := Lib.hid (HF.out.fewC HST.out)
  go_wp2_with fail
  refine (scan_calls _ (cs) (at') _ HM.out HFC.out).mono ?_
  rintro e u4 ⟨vs, rfl, hs, hls, hb⟩
  replace HI := Lib.hid (HI.out.below hb)
  replace HK := Lib.hid (HK.out.below hb)
  replace HM := Lib.hid (HM.out.below hb)
  replace HB := Lib.hid (HB.out.trans (hb.mono HB.out.size))
  have S1 := Lib.hid (hs.rows (Nat.le_trans hls (by have := (HFC.out).2; omega)))
  clear hb
  have HLS1 := Lib.hid (Nat.le_trans hls (Nat.mul_le_mul_left 60 (HFC.out).2))
  clear hs hls
  obtain ⟨axS1, qsS1, rfl⟩ := S1.out.slice
  have HT1 : Hid (∀ p ∈ scanM cs at', seenB (readO cs p.key at') = true ∧ seenT (readO cs p.key at') = p.text) := Lib.hid fun p hp => (scan_tells HFC.out at' p.key).2 p hp
  have HT2 : Hid (∀ key, (∃ p ∈ scanM cs at', kb p.key = kb key) ↔ seenB (readO cs key at') = true) := Lib.hid fun key => (scan_tells HFC.out at' key).1
  have HT3 : Hid (∀ (i : Nat) p q, (scanM cs at')[i]? = some p → (scanM cs at')[i + 1]? = some q → kb p.key < kb q.key) := Lib.hid fun i p q hp hq => scan_rise HFC.out at' hp hq
  have HT4 : Hid (∀ p ∈ scanM cs at', p.key.size ≤ 100) := Lib.hid fun p hp => by
    obtain ⟨c, hc, y, hy, he⟩ := scan_keys hp
    obtain ⟨i, hi⟩ := List.mem_iff_getElem?.1 hc
    obtain ⟨j, hj⟩ := List.mem_iff_getElem?.1 hy
    rw [← kb_inj he]
    exact ((HF.out.1 i c hi).1 j y hj).1
  generalize scanM cs at' = l at *
  have HLL : Hid (l.length ≤ 1860) := Lib.hid HLS1.out
  clear HLS1
  obtain ⟨w0, hw0⟩ : ∃ W, W = u4 := ⟨_, rfl⟩
  rw [← hw0] at HB HI HK HM S1 ⊢
  clear hw0
  have BHI := HI
  have BHK := HK
  have BHM := HM
  have BS1 := S1
  have BHB := HB
  have hle1 := HLL.out
  have hcp1 := S1.out.cap_le
  have hmm := @run_makeMap Try.prog
  go_wp2
  go_loopw [10, 11, 12, 13, 40] (fun _ _ _ _ i wr => ∃ k : Nat, k ≤ l.length ∧ i = .int .i64 k ∧ HadM w0.heap.size l k wr ∧ Below w0.heap.size w0 wr) (fun _ _ _ _ i _ => l.length - (intOf i).toNat)
  case atStart => exact ⟨0, Nat.zero_le _, rfl, HadM.made _ _, (Below.refl _ _).alloc (Nat.le_refl _) _⟩
  case round =>
    obtain ⟨k, hk, rfl, hhad, hbw⟩ := hrel
    have HHAD := Lib.hid hhad
    clear hhad
    clear hmm
    replace HI := Lib.hid (BHI.out.below hbw)
    replace HK := Lib.hid (BHK.out.below hbw)
    replace HM := Lib.hid (BHM.out.below hbw)
    replace S1 := Lib.hid (BS1.out.below hbw)
    replace HB := Lib.hid (BHB.out.trans (hbw.mono BHB.out.size))
    have HBW := Lib.hid hbw
    clear hbw
    by_cases hlt : k < l.length
    · obtain ⟨p, hp⟩ : ∃ p, l[k]? = some p := ⟨_, List.getElem?_eq_getElem hlt⟩
      have HP := Lib.hid hp
      have HPM : Hid (p ∈ l) := Lib.hid (List.mem_of_getElem? hp)
      obtain ⟨b, off, e0, hz, hc0, hc1⟩ := S1.out.p2 hp
      subst e0
      clear hz hp
      have HS0 : Hid ((wr.alloc (.cells #[.string p.key, .string p.text] 60)).cell? ⟨wr.heap.size, 0, none⟩ = some (.string p.key)) := Lib.hid (cell_of_row _ _ _ _ _ _ (heap_alloc_new wr _))
      have HS1 : Hid ((wr.alloc (.cells #[.string p.key, .string p.text] 60)).cell? ⟨wr.heap.size, 1, none⟩ = some (.string p.text)) := Lib.hid (cell_of_row _ _ _ _ _ _ (heap_alloc_new wr _))
      go_wp2_with fail
      replace HI := Lib.hid (HI.out.alloc (.cells #[.string p.key, .string p.text] 60))
      replace HK := Lib.hid (HK.out.alloc (.cells #[.string p.key, .string p.text] 60))
      replace HM := Lib.hid (HM.out.alloc (.cells #[.string p.key, .string p.text] 60))
      replace S1 := Lib.hid (S1.out.alloc (.cells #[.string p.key, .string p.text] 60))
      replace HHAD := Lib.hid (HHAD.out.alloc (.cells #[.string p.key, .string p.text] 60))
      replace HB := Lib.hid (HB.out.alloc HB.out.size (.cells #[.string p.key, .string p.text] 60))
      replace HBW := Lib.hid (HBW.out.alloc HBW.out.size (.cells #[.string p.key, .string p.text] 60))
      skip
      refine (read_calls _ cs p.key at' _ HM.out HFC.out.rises).mono ?_
      rintro e u5 ⟨rfl, hb⟩
      replace HI := Lib.hid (HI.out.below hb)
      replace HK := Lib.hid (HK.out.below hb)
      replace HM := Lib.hid (HM.out.below hb)
      replace S1 := Lib.hid (S1.out.below hb)
      replace HHAD := Lib.hid (HHAD.out.below hb)
      replace HB := Lib.hid (HB.out.trans (hb.mono HB.out.size))
      replace HBW := Lib.hid (HBW.out.trans (hb.mono HBW.out.size))
      have hb6 := hb
      clear hb
      have hz0 : u5.cell? ⟨wr.heap.size, 0, none⟩ = some (.string p.key) := (hb6.cell (p := ⟨wr.heap.size, 0, none⟩) (by simp)).trans HS0.out
      have hz1 : u5.cell? ⟨wr.heap.size, 1, none⟩ = some (.string p.text) := (hb6.cell (p := ⟨wr.heap.size, 1, none⟩) (by simp)).trans HS1.out
      clear hb6 HS0 HS1 hc0 hc1
      rw [(HT1.out p HPM.out).1, (HT1.out p HPM.out).2]
      have q1 : ((p.text.toList == p.text.toList) : Bool) = true := beq_self_eq_true _
      have q2 : ((p.text.toList != p.text.toList) : Bool) = false := bne_self_eq_false _
      obtain ⟨wq, hwq⟩ : ∃ W, W = u5 := ⟨_, rfl⟩
      obtain ⟨z, hzz⟩ : ∃ z, z = wr.heap.size := ⟨_, rfl⟩
      rw [← hwq] at HB HBW hz0 hz1 HI HK HM S1 HHAD ⊢
      rw [← hzz] at hz0 hz1 ⊢
      clear hwq hzz
      cases k with
      | zero =>
        have g1 : decide ((0 : Int) < 0) = false := rfl
        go_wp2
        go_quiet (fail)
        obtain ⟨D, hown, hmap, hat⟩ := HHAD.out.get
        have hkey : keyOf Try.prog 9 (.string p.key) = some (.string p.key.data.toList) := keyOf_string_mk Try.underlying9 (by have := HT4.out p HPM.out; unfold maxLen; omega)
        have HAT := Lib.hid hat
        have HMAP := Lib.hid hmap
        have HOWN := Lib.hid hown
        have HKEY := Lib.hid hkey
        have HNEW : Hid (D.atKey (.string p.key.data.toList) (.lit (.int .i64 0)) = .lit (.int .i64 0)) := Lib.hid (by
          rw [hat, if_neg]
          rintro ⟨q, hq, he⟩
          exact take_new HT3.out HP.out hq he)
        have HLK : Hid (0 < maxLen) := Lib.hid (by have := HLL.out; unfold maxLen; omega)
        clear hat hmap hown hkey
        go_wp2_with (first
          | (at_lookup; refine wpList_lookup_own_int _ rfl _ _ 58 rfl 9 3 .i64 lawS Try.underlying58 Try.underlying3 (zeroI _) w0.heap.size _ _ rfl (World.ownsMap.drewN' HOWN.out _) _ _ rfl HKEY.out ?_; intro c hat hwc; obtain rfl : c = 0 := (by have := HNEW.out.symm.trans hat; simpa using this.symm); clear hat hwc)
          | (at_mapUpdate; refine wpList_mapUpdate_own _ rfl _ _ _ 58 rfl 9 3 lawS Try.underlying58 _ w0.heap.size _ _ rfl (World.ownsMap.drewN' HOWN.out _) HLK.out _ _ _ rfl rfl HKEY.out _ [] (plainElem_int Try.underlying3 (by decide)) ?_; intro w9 hown9 hgrow9; have HOWN9 := Lib.hid hown9; have HG9 := Lib.hid hgrow9; clear hown9 hgrow9))
        go_roundw
        case rel => exact ⟨0 + 1, hlt, by go_num, HadM.step HP.out HMAP.out HAT.out HOWN9.out, (below_drewN HBW.out _).grown HG9.out HBW.out.size (fun j hj => by cases hj; exact Nat.le_refl _)⟩
        case measure => simp [intOf]; omega
      | succ j =>
        obtain ⟨q, hq⟩ : ∃ q, l[j]? = some q := ⟨_, List.getElem?_eq_getElem (by omega)⟩
        obtain ⟨b', off', e0, hz', hd0, hd1⟩ := S1.out.p2 hq
        simp only [Option.some.injEq, Addr.mk.injEq] at e0
        obtain ⟨rfl, rfl, -⟩ := e0
        have q5 : Op.bytesLess q.key.toList p.key.toList = true := by rw [less_eq]; exact decide_eq_true (HT3.out j q p hq HP.out)
        clear hz' hd1 hq
        have g1 : decide ((0 : Int) < (j : Int) + 1) = true := by apply decide_eq_true; omega
        have g2 : IntKind.i64.wrap (j : Int) = (j : Int) := IntWalk.i64_in _ (by omega)
        have g3 : (j : Int) < (l.length : Int) := by omega
        have g4 : (0 : Int) ≤ (j : Int) + 1 := by omega
        have g5 : ((j : Int) + 1).toNat = j + 1 := by omega
        go_wp2
        go_quiet (fail)
        obtain ⟨D, hown, hmap, hat⟩ := HHAD.out.get
        have hkey : keyOf Try.prog 9 (.string p.key) = some (.string p.key.data.toList) := keyOf_string_mk Try.underlying9 (by have := HT4.out p HPM.out; unfold maxLen; omega)
        have HAT := Lib.hid hat
        have HMAP := Lib.hid hmap
        have HOWN := Lib.hid hown
        have HKEY := Lib.hid hkey
        have HNEW : Hid (D.atKey (.string p.key.data.toList) (.lit (.int .i64 0)) = .lit (.int .i64 0)) := Lib.hid (by
          rw [hat, if_neg]
          rintro ⟨q, hq, he⟩
          exact take_new HT3.out HP.out hq he)
        have HLK : Hid (j + 1 < maxLen) := Lib.hid (by have := HLL.out; unfold maxLen; omega)
        clear hat hmap hown hkey
        go_wp2_with (first
          | (at_lookup; refine wpList_lookup_own_int _ rfl _ _ 58 rfl 9 3 .i64 lawS Try.underlying58 Try.underlying3 (zeroI _) w0.heap.size _ _ rfl (World.ownsMap.drewN' HOWN.out _) _ _ rfl HKEY.out ?_; intro c hat hwc; obtain rfl : c = 0 := (by have := HNEW.out.symm.trans hat; simpa using this.symm); clear hat hwc)
          | (at_mapUpdate; refine wpList_mapUpdate_own _ rfl _ _ _ 58 rfl 9 3 lawS Try.underlying58 _ w0.heap.size _ _ rfl (World.ownsMap.drewN' HOWN.out _) HLK.out _ _ _ rfl rfl HKEY.out _ [] (plainElem_int Try.underlying3 (by decide)) ?_; intro w9 hown9 hgrow9; have HOWN9 := Lib.hid hown9; have HG9 := Lib.hid hgrow9; clear hown9 hgrow9))
        go_roundw
        case rel => exact ⟨j + 1 + 1, hlt, by go_num, HadM.step HP.out HMAP.out HAT.out HOWN9.out, (below_drewN HBW.out _).grown HG9.out HBW.out.size (fun j hj => by cases hj; exact Nat.le_refl _)⟩
        case measure => simp [intOf]; omega
    · obtain rfl : k = l.length := by omega
      clear hlt hk
      have HFIN : Hid (∀ key : ByteArray, (if ∃ p ∈ l.take l.length, kb p.key = kb key then (1 : Int) else 0) = if seenB (readO cs key at') = true then 1 else 0) := Lib.hid fun key => by
        rw [List.take_length]
        by_cases h : seenB (readO cs key at') = true
        · rw [if_pos ((HT2.out key).2 h), if_pos h]
        · rw [if_neg (fun h' => h ((HT2.out key).1 h')), if_neg h]
      have hle2 := HI.out.le
      have hcp2 := HI.out.cap_le
      obtain ⟨w2, hw2⟩ : ∃ W, W = wr := ⟨_, rfl⟩
      rw [← hw2] at HB HI HK HM HHAD ⊢
      clear hw2 S1 BS1 BHI BHK BHM BHB HBW HT1 HT3 HT4
      have CHI := HI
      have CHK := HK
      have CHM := HM
      have CHHAD := HHAD
      have CHB := HB
      go_wp2
      go_loopw [1, 15, 84] (fun kv _ i wr => ∃ k : Nat, k ≤ cs.length ∧ i = .int .i64 k ∧ (∃ (ks2 : List ByteArray), Rows ES wr kv ks2 ∧ ks2.length ≤ 100 + 60 * k ∧ (∀ x ∈ ks2, x.size ≤ 140737488351232)) ∧ Below w2.heap.size w2 wr) (fun _ _ i _ => cs.length - (intOf i).toNat)
      case atStart => exact ⟨0, Nat.zero_le _, rfl, ⟨ks, CHK.out, by have := H100.out; omega, HKZ.out⟩, Below.refl _ _⟩
      case round =>
        obtain ⟨k, hk, rfl, ⟨ks2, hks, hkl, hksz⟩, hbw⟩ := hrel
        obtain ⟨ak2, qk2, rfl⟩ := hks.slice
        have HKS := Lib.hid hks
        have HKL := Lib.hid hkl
        have HKSZ := Lib.hid hksz
        clear hks hkl hksz
        replace HI := Lib.hid (CHI.out.below hbw)
        replace HM := Lib.hid (CHM.out.below hbw)
        replace HHAD := Lib.hid (CHHAD.out.below hbw)
        replace HB := Lib.hid (CHB.out.trans (hbw.mono CHB.out.size))
        have HBW := Lib.hid hbw
        clear hbw
        by_cases hlt : k < cs.length
        · obtain ⟨c, hc⟩ : ∃ c, cs[k]? = some c := ⟨_, List.getElem?_eq_getElem hlt⟩
          have HFS := Lib.hid (HF.out.1 k c hc)
          obtain ⟨b, off, sa, sn, sc, e0, hz, hc0, hc1, hr⟩ := HI.out.c2 hc
          subst e0
          have HR := Lib.hid hr
          obtain rfl : sn = c.set.length := hr.len_eq
          clear hz hc hr
          go_wp2_with fail
          replace HI := Lib.hid (HI.out.alloc (.cells #[.int .u64 c.stamp, .slice sa c.set.length sc] 62))
          replace HM := Lib.hid (HM.out.alloc (.cells #[.int .u64 c.stamp, .slice sa c.set.length sc] 62))
          replace HHAD := Lib.hid (HHAD.out.alloc (.cells #[.int .u64 c.stamp, .slice sa c.set.length sc] 62))
          replace HKS := Lib.hid (HKS.out.alloc (.cells #[.int .u64 c.stamp, .slice sa c.set.length sc] 62))
          replace HR := Lib.hid (HR.out.alloc (.cells #[.int .u64 c.stamp, .slice sa c.set.length sc] 62))
          replace HB := Lib.hid (HB.out.alloc HB.out.size (.cells #[.int .u64 c.stamp, .slice sa c.set.length sc] 62))
          replace HBW := Lib.hid (HBW.out.alloc HBW.out.size (.cells #[.int .u64 c.stamp, .slice sa c.set.length sc] 62))
          have hle3 := HFS.out.2
          have hcp3 := HR.out.cap_le
          have HZ : Hid (wr.heap.size < (wr.alloc (.cells #[.int .u64 c.stamp, .slice sa c.set.length sc] 62)).heap.size) := Lib.hid (by simp)
          obtain ⟨w3, hw3⟩ : ∃ W, W = wr.alloc (.cells #[.int .u64 c.stamp, .slice sa c.set.length sc] 62) := ⟨_, rfl⟩
          rw [← hw3] at HB HBW HZ HI HM HHAD HKS HR ⊢
          clear hw3 hc0 hc1
          have DHI := HI
          have DHM := HM
          have DHHAD := HHAD
          have DHKS := HKS
          have DHR := HR
          have DHB := HB
          have DHBW := HBW
          go_loopw [1, 17, 91] (fun kv _ i wr => ∃ m : Nat, m ≤ c.set.length ∧ i = .int .i64 m ∧ (∃ (ks3 : List ByteArray), Rows ES wr kv ks3 ∧ ks3.length ≤ ks2.length + m ∧ (∀ x ∈ ks3, x.size ≤ 140737488351232)) ∧ Below w3.heap.size w3 wr) (fun _ _ i _ => c.set.length - (intOf i).toNat)
          case atStart => exact ⟨0, Nat.zero_le _, rfl, ⟨ks2, DHKS.out, by omega, HKSZ.out⟩, Below.refl _ _⟩
          case round =>
            obtain ⟨m, hm, rfl, ⟨ks3, hks, hkl, hksz⟩, hbw⟩ := hrel
            obtain ⟨ak3, qk3, rfl⟩ := hks.slice
            have HKS3 := Lib.hid hks
            have HKL3 := Lib.hid hkl
            have HKSZ3 := Lib.hid hksz
            clear hks hkl hksz
            replace HI := Lib.hid (DHI.out.below hbw)
            replace HM := Lib.hid (DHM.out.below hbw)
            replace HHAD := Lib.hid (DHHAD.out.below hbw)
            replace HR := Lib.hid (DHR.out.below hbw)
            replace HB := Lib.hid (DHB.out.trans (hbw.mono DHB.out.size))
            replace HBW := Lib.hid (DHBW.out.trans (hbw.mono DHBW.out.size))
            have HBV := Lib.hid hbw
            clear hbw
            by_cases hlt3 : m < c.set.length
            · obtain ⟨x, hx⟩ : ∃ x, c.set[m]? = some x := ⟨_, List.getElem?_eq_getElem hlt3⟩
              have HXS := Lib.hid (HFS.out.1 m x hx)
              obtain ⟨b2, off2, e0, hz, hc0, hc1, hc2⟩ := HR.out.w3 hx
              subst e0
              clear hz hx
              have hcp4 := HKS3.out.cap_le
              have hcp5 : (ks3.length : Int) ≤ (qk3 : Int) := by omega
              have hle5 := HKS3.out.le
              go_wp2
              replace HI := Lib.hid (HI.out.alloc (.cells #[.string x.key, .string x.text, .bool x.gone] 52))
              replace HM := Lib.hid (HM.out.alloc (.cells #[.string x.key, .string x.text, .bool x.gone] 52))
              replace HHAD := Lib.hid (HHAD.out.alloc (.cells #[.string x.key, .string x.text, .bool x.gone] 52))
              replace HR := Lib.hid (HR.out.alloc (.cells #[.string x.key, .string x.text, .bool x.gone] 52))
              replace HKS3 := Lib.hid (HKS3.out.alloc (.cells #[.string x.key, .string x.text, .bool x.gone] 52))
              replace HB := Lib.hid (HB.out.alloc HB.out.size (.cells #[.string x.key, .string x.text, .bool x.gone] 52))
              replace HBV := Lib.hid (HBV.out.alloc HBV.out.size (.cells #[.string x.key, .string x.text, .bool x.gone] 52))
              replace HBW := Lib.hid (HBW.out.alloc HBW.out.size (.cells #[.string x.key, .string x.text, .bool x.gone] 52))
              have HS0 : Hid ((wr.alloc (.cells #[.string x.key, .string x.text, .bool x.gone] 52)).cell? ⟨wr.heap.size, 0, none⟩ = some (.string x.key)) := Lib.hid (cell_of_row _ _ _ _ _ _ (heap_alloc_new wr _))
              have HZ4 : Hid (wr.heap.size < (wr.alloc (.cells #[.string x.key, .string x.text, .bool x.gone] 52)).heap.size) := Lib.hid (by simp)
              obtain ⟨z4, hz4⟩ : ∃ z, z = wr.heap.size := ⟨_, rfl⟩
              obtain ⟨w4, hw4⟩ : ∃ W, W = wr.alloc (.cells #[.string x.key, .string x.text, .bool x.gone] 52) := ⟨_, rfl⟩
              rw [← hw4] at HB HBV HBW HS0 HZ4 HI HM HHAD HR HKS3 ⊢
              rw [← hz4] at HS0 HZ4 ⊢
              clear hw4 hz4 hc0 hc1 hc2
              refine wp_region_held_drew (S := (fun W : World => W.cell? ⟨z4, 0, none⟩ = some (.string x.key))) (by kernel_rfl) ?_ (fun hHeld => ?_)
              · (exact HS0.out)
              try (change wpAnyH _ _ _ _ _ _ _ _ (World.drew _))
              refine wpAnyH_take (i := 0) (v := ?_) rfl (by kernel_rfl) (by kernel_rfl) (by kernel_rfl) (fun _ _ _ h => h) (Or.inl ⟨by rfl, ?_⟩) (by assumption) ?_
              rotate_left
              · intro w hSw
                go_simp
                try (with_reducible rfl)
              (simp only [Act.put, List.getElem_toArray, List.getElem_cons_succ, List.getElem_cons_zero, List.setIfInBounds_toArray, List.set_cons_zero, List.set_cons_succ])
              refine wpAnyH_take (i := 1) (v := ?_) rfl (by kernel_rfl) (by kernel_rfl) (by kernel_rfl) (fun _ _ _ h => h) (Or.inl ⟨by rfl, ?_⟩) (by assumption) ?_
              rotate_left
              · intro w hSw
                go_simp
                try (with_reducible rfl)
              (simp only [Act.put, List.getElem_toArray, List.getElem_cons_succ, List.getElem_cons_zero, List.setIfInBounds_toArray, List.set_cons_zero, List.set_cons_succ])
              refine wpAnyH_take (i := 2) (v := ?_) rfl (by kernel_rfl) (by kernel_rfl) (by kernel_rfl) (fun _ _ _ h => h) (Or.inl ⟨by rfl, ?_⟩) (by assumption) ?_
              rotate_left
              · intro w hSw
                go_simp
                try (with_reducible rfl)
              (simp only [Act.put, List.getElem_toArray, List.getElem_cons_succ, List.getElem_cons_zero, List.setIfInBounds_toArray, List.set_cons_zero, List.set_cons_succ])
              refine wpAnyH_take (i := 3) (v := ?_) rfl (by kernel_rfl) (by kernel_rfl) (by kernel_rfl) (fun _ _ _ h => h) (Or.inl ⟨by rfl, ?_⟩) (by assumption) ?_
              rotate_left
              · intro w hSw
                go_simp
                try (with_reducible rfl)
              (simp only [Act.put, List.getElem_toArray, List.getElem_cons_succ, List.getElem_cons_zero, List.setIfInBounds_toArray, List.set_cons_zero, List.set_cons_succ])
              refine wpAnyH_take (i := 4) (v := ?_) rfl (by kernel_rfl) (by kernel_rfl) (by kernel_rfl) (fun _ _ _ h => h) (Or.inl ⟨by rfl, ?_⟩) (by assumption) ?_
              rotate_left
              · intro w hSw
                go_simp
                try (with_reducible rfl)
              (simp only [Act.put, List.getElem_toArray, List.getElem_cons_succ, List.getElem_cons_zero, List.setIfInBounds_toArray, List.set_cons_zero, List.set_cons_succ])
              refine wpAnyH_take (i := 5) (v := ?_) rfl (by kernel_rfl) (by kernel_rfl) (by kernel_rfl) (fun _ _ _ h => h) (Or.inl ⟨by rfl, ?_⟩) (by assumption) ?_
              rotate_left
              · intro w hSw
                go_simp
                try (with_reducible rfl)
              (simp only [Act.put, List.getElem_toArray, List.getElem_cons_succ, List.getElem_cons_zero, List.setIfInBounds_toArray, List.set_cons_zero, List.set_cons_succ])
              refine wpAnyH_take (i := 6) (v := ?_) rfl (by kernel_rfl) (by kernel_rfl) (by kernel_rfl) (fun _ _ _ h => h) (Or.inl ⟨by rfl, ?_⟩) (by assumption) ?_
              rotate_left
              · intro w hSw
                go_simp
                try (with_reducible rfl)
              (simp only [Act.put, List.getElem_toArray, List.getElem_cons_succ, List.getElem_cons_zero, List.setIfInBounds_toArray, List.set_cons_zero, List.set_cons_succ])
              refine wpAnyH_take (i := 7) (v := ?_) rfl (by kernel_rfl) (by kernel_rfl) (by kernel_rfl) (fun _ _ _ h => h) (Or.inl ⟨by rfl, ?_⟩) (by assumption) ?_
              rotate_left
              · intro w hSw
                (have h1 := hSw)
                go_simp
                try (with_reducible rfl)
              (simp only [Act.put, List.getElem_toArray, List.getElem_cons_succ, List.getElem_cons_zero, List.setIfInBounds_toArray, List.set_cons_zero, List.set_cons_succ])
              refine wpAnyH_ready (rs := [8]) (by kernel_rfl) (by simp) ?_
              refine AllReadyH.cons rfl (fun K hK => ?_) AllReadyH.nil
              go_simp
              (skip)
              refine hK.out _ _ ?_ ?_
              · (exact (World.cell?_alloc_some _ _ _ (by rw [HS0.out]; rfl)).trans HS0.out)
              intro hHeld
              clear hK K
              have HNEW : Hid (Rows ES (w4.alloc (.cells #[.string x.key] 9)).drew (.slice (some ⟨w4.heap.size, 0, none⟩) 1 1) [x.key]) := Lib.hid (rows_new ES w4 9 x.key).drew
              refine wpAnyH_ready (rs := [9]) (by kernel_rfl) (by simp) ?_
              refine AllReadyH.cons rfl (fun K hK => ?_) AllReadyH.nil
              (refine step_fresh rfl (.tmp 100) (.tmp 103) 57 rfl rowS _ ks3 rfl ((HKS3.out.cut.alloc _).drew) _ _ [x.key] (by simp) rfl HNEW.out 10000 (by have := HKL3.out; have := HKL.out; have := HFS.out.2; have := HF.out.2.1; simp; omega) ⟨by simp [maxLen], by omega⟩ ?_; intro A9 c9 w9 ho9 hb9; have HO9 := Lib.hid (ho9.rows (by have := HKL3.out; have := HKL.out; have := HFS.out.2; have := HF.out.2.1; simp; omega)); have HB9 : Hid (Below w4.heap.size w4 w9) := Lib.hid ((Below.drew ((Below.refl w4.heap.size w4).alloc (Nat.le_refl _) (.cells #[.string x.key] 9))).trans (hb9.mono (by simp))); clear ho9 hb9)
              (simp only [Act.put, List.getElem_toArray, List.getElem_cons_succ, List.getElem_cons_zero, List.setIfInBounds_toArray, List.set_cons_zero, List.set_cons_succ])
              refine hK.out _ _ ?_ ?_
              · (exact (HB9.out.cell (p := ⟨z4, 0, none⟩) HZ4.out).trans HS0.out)
              intro hHeld
              clear hK K
              refine wpAnyH_take (i := 10) (v := ?_) rfl (by kernel_rfl) (by kernel_rfl) (by kernel_rfl) (fun _ _ _ h => h) (Or.inl ⟨by rfl, ?_⟩) (by assumption) ?_
              rotate_left
              · intro w hSw
                go_simp
                try (with_reducible rfl)
              (simp only [Act.put, List.getElem_toArray, List.getElem_cons_succ, List.getElem_cons_zero, List.setIfInBounds_toArray, List.set_cons_zero, List.set_cons_succ])
              refine wpAnyH_done (by kernel_rfl) ?_ _
              have HSZN : Hid (∀ y ∈ ks3 ++ [x.key], y.size ≤ 140737488351232) := Lib.hid fun y hy => by
                rcases List.mem_append.1 hy with h | h
                · exact HKSZ3.out y h
                · simp only [List.mem_singleton] at h
                  subst h
                  have := HXS.out.1; omega
              replace HBV := Lib.hid (HBV.out.trans (HB9.out.mono HBV.out.size))
              go_wp2
              go_roundw
              case rel => exact ⟨m + 1, hlt3, by go_num, ⟨_, HO9.out, by have := HKL3.out; simp; omega, HSZN.out⟩, HBV.out⟩
              case measure => simp [intOf]; omega
            · obtain rfl : m = c.set.length := by omega
              clear hlt3 hm
              have HREL : Hid (∃ (ks2 : List ByteArray), Rows ES wr (.slice ak3 ks3.length qk3) ks2 ∧ ks2.length ≤ 100 + 60 * (k + 1) ∧ (∀ x ∈ ks2, x.size ≤ 140737488351232)) := Lib.hid ⟨ks3, HKS3.out, by have := HKL3.out; have := HKL.out; have := HFS.out.2; omega, HKSZ3.out⟩
              go_wp2
              go_roundw
              case rel => exact ⟨k + 1, hlt, by go_num, HREL.out, HBW.out⟩
              case measure => simp [intOf]; omega
        · obtain rfl : k = cs.length := by omega
          clear hlt hk
          have hleK := HKS.out.le
          have hcpK := HKS.out.cap_le
          obtain ⟨w5, hw5⟩ : ∃ W, W = wr := ⟨_, rfl⟩
          rw [← hw5] at HB HI HM HHAD HKS ⊢
          clear hw5 HBW
          have EHI := HI
          have EHM := HM
          have EHHAD := HHAD
          have EHKS := HKS
          have EHB := HB
          go_wp2
          go_loopw [19, 20, 21, 109] (fun _ _ _ i wr => ∃ k : Nat, k ≤ ks2.length ∧ i = .int .i64 k ∧ Below w5.heap.size w5 wr) (fun _ _ _ i _ => ks2.length - (intOf i).toNat)
          case atStart => exact ⟨0, Nat.zero_le _, rfl, Below.refl _ _⟩
          case round =>
            obtain ⟨k, hk, rfl, hbw⟩ := hrel
            replace HI := Lib.hid (EHI.out.below hbw)
            replace HM := Lib.hid (EHM.out.below hbw)
            replace HHAD := Lib.hid (EHHAD.out.below hbw)
            replace HKS := Lib.hid (EHKS.out.below hbw)
            replace HB := Lib.hid (EHB.out.trans (hbw.mono EHB.out.size))
            have HBW := Lib.hid hbw
            clear hbw
            by_cases hlt : k < ks2.length
            · obtain ⟨x, hx⟩ : ∃ x, ks2[k]? = some x := ⟨_, List.getElem?_eq_getElem hlt⟩
              have HXZ := Lib.hid (HKSZ.out x (List.mem_of_getElem? hx))
              obtain ⟨b, off, e0, hz, hc0⟩ := HKS.out.s1 hx
              subst e0
              clear hz hx
              go_wp2_with fail
              refine (read_calls _ cs x at' _ HM.out HFC.out.rises).mono ?_
              rintro e u1 ⟨rfl, hb⟩
              replace HI := Lib.hid (HI.out.below hb)
              replace HM := Lib.hid (HM.out.below hb)
              replace HHAD := Lib.hid (HHAD.out.below hb)
              replace HKS := Lib.hid (HKS.out.below hb)
              replace HB := Lib.hid (HB.out.trans (hb.mono HB.out.size))
              replace HBW := Lib.hid (HBW.out.trans (hb.mono HBW.out.size))
              have hb6 := hb
              clear hb
              clear hb6 hc0
              obtain ⟨D, hown, hmap, hat⟩ := HHAD.out.get
              have HKEY : Hid (keyOf Try.prog 9 (.string x) = some (.string x.data.toList)) := Lib.hid (keyOf_string_mk Try.underlying9 (by have := HXZ.out; unfold maxLen; omega))
              have HOWN := Lib.hid hown
              have HNEW : Hid (D.atKey (.string x.data.toList) (.lit (.int .i64 0)) = .lit (.int .i64 (if seenB (readO cs x at') = true then 1 else 0))) := Lib.hid (by rw [hat, HFIN.out])
              clear hat hmap hown
              obtain ⟨bs, hbs⟩ : ∃ bs, seenB (readO cs x at') = bs := ⟨_, rfl⟩
              rw [hbs] at HNEW ⊢
              clear hbs
              have HNEW' : Hid (D.atKey (.string x.data.toList) (.lit (.int .i64 0)) = .lit (.int .i64 (if bs then 1 else 0))) := HNEW
              cases bs
              · go_wp2_with (at_lookup; refine wpList_lookup_own_int _ rfl _ _ 58 rfl 9 3 .i64 lawS Try.underlying58 Try.underlying3 (zeroI _) w0.heap.size _ _ rfl HOWN.out _ _ rfl HKEY.out ?_; intro c hat hwc; obtain rfl : c = 0 := (by have := HNEW'.out.symm.trans hat; simpa using this.symm); clear hat hwc)
                go_roundw
                case rel => exact ⟨k + 1, hlt, by go_num, HBW.out⟩
                case measure => simp [intOf]; omega
              · go_wp2_with (at_lookup; refine wpList_lookup_own_int _ rfl _ _ 58 rfl 9 3 .i64 lawS Try.underlying58 Try.underlying3 (zeroI _) w0.heap.size _ _ rfl HOWN.out _ _ rfl HKEY.out ?_; intro c hat hwc; obtain rfl : c = 1 := (by have := HNEW'.out.symm.trans hat; simpa using this.symm); clear hat hwc)
                go_roundw
                case rel => exact ⟨k + 1, hlt, by go_num, HBW.out⟩
                case measure => simp [intOf]; omega
            · obtain rfl : k = ks2.length := by omega
              clear hlt hk
              go_wp2
              go_ret
              exact ⟨rfl, HB.out⟩
end Go.Proofs.Ytdeecdebhigafaa
