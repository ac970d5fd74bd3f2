/- MODEL: the document's Same, Clash, Add, Read. -/
import Derived.Test.YtdeecdebhigafaaMdlRise
namespace Go.Proofs.Ytdeecdebhigafaa
open Go Go.RowKit
set_option linter.unusedSimpArgs false

set_option maxHeartbeats 1600000 in
theorem same16_calls (v u : Value) (cs ds : List Ct) (w : World) (hI : Coms w v cs) (hJ : Coms w u ds) :
    Calls Try.prog 18 #[v, u] w fun e w' => ∃ r : Bool, e = .returned (.bool r) ∧ (r = true ↔ cs = ds) ∧ Below w.heap.size w w' := by
  obtain ⟨a, cap, rfl⟩ := hI.slice
  obtain ⟨a', cap', rfl⟩ := hJ.slice
  have HI := Lib.hid hI
  have HJ := Lib.hid hJ
  have hle := hI.le
  have hcap := hI.cap_le
  have hcap' := hJ.cap_le
  clear hI hJ
  by_cases hl : cs.length = ds.length
  · rw [← hl] at HJ hcap' ⊢
    have HL := Lib.hid hl
    clear hl
    go_enter Try.func18, Try.ntmps18
    go_wp2
    go_loopw [5] (fun i wr => ∃ k : Nat, k ≤ cs.length ∧ i = .int .i64 k ∧ (∀ j, j < k → cs[j]? = ds[j]?) ∧ Below w.heap.size w wr) (fun i _ => cs.length - (intOf i).toNat)
    case atStart => exact ⟨0, Nat.zero_le _, rfl, fun j hj => absurd hj (by omega), Below.refl _ _⟩
    case round =>
      obtain ⟨k, hk, rfl, hyes, hbw⟩ := hrel
      have HYES := Lib.hid hyes
      have HB := Lib.hid hbw
      clear hyes
      by_cases hlt : k < cs.length
      · obtain ⟨c, hc⟩ : ∃ c, cs[k]? = some c := ⟨_, List.getElem?_eq_getElem hlt⟩
        obtain ⟨d, hd⟩ : ∃ d, ds[k]? = some d := ⟨_, List.getElem?_eq_getElem (by have := HL.out; omega)⟩
        have HC := Lib.hid hc
        have HD := Lib.hid hd
        obtain ⟨b, off, sa, sn, sc, rfl, hz, hc0, hc1, hr⟩ := (HI.out.below hbw).c2 hc
        obtain ⟨b', off', ta, tn, tc, rfl, hz', hd0, hd1, hr'⟩ := (HJ.out.below hbw).c2 hd
        have HR := Lib.hid hr
        have HR' := Lib.hid hr'
        have HBS : Hid (b < wr.heap.size) := Lib.hid (World.block_lt_of_cell? _ _ hc0)
        have HBS' : Hid (b' < wr.heap.size) := Lib.hid (World.block_lt_of_cell? _ _ hd0)
        have H0 := Lib.hid hc0
        have H1 := Lib.hid hc1
        have H0' := Lib.hid hd0
        have H1' := Lib.hid hd1
        have HEQ : Hid (cs = ds → c = d) := Lib.hid (fun h => by
          have e1 := HC.out
          rw [h, HD.out] at e1
          simp only [Option.some.injEq] at e1
          exact e1.symm)
        clear hz hz' hc hd hr hr' hc0 hc1 hd0 hd1 hbw
        have g1 : (0 : Int) ≤ (k : Int) := by omega
        have g2 : (k : Int) < (cs.length : Int) := by omega
        have hw : IntKind.i64.wrap (k : Int) = (k : Int) := IntWalk.i64_in _ (by omega)
        by_cases hst : c.stamp = d.stamp
        · have t1 : ((c.stamp : Int) != (d.stamp : Int)) = false := by rw [bne_eq_false_iff_eq, hst]
          have t2 : ((c.stamp : Int) == (d.stamp : Int)) = true := by rw [beq_iff_eq, hst]
          have t3 : (c.stamp == d.stamp) = true := by rw [beq_iff_eq, hst]
          have HST := Lib.hid hst
          clear hst
          go_wp2
          refine wp_region_held_drew (S := (fun W : World => W.cell? ⟨b, off + k * 2, none⟩ = some (.int .u64 c.stamp) ∧ W.cell? ⟨b, off + k * 2 + 1, none⟩ = some (.slice sa sn sc) ∧ W.cell? ⟨b', off' + k * 2, none⟩ = some (.int .u64 d.stamp) ∧ W.cell? ⟨b', off' + k * 2 + 1, none⟩ = some (.slice ta tn tc))) (by kernel_rfl) ?_ (fun hHeld => ?_)
          · (exact ⟨H0.out, H1.out, H0'.out, H1'.out⟩)
          try (change wpAnyH _ _ _ _ _ _ _ _ (World.drew _))
          refine wpAnyH_take (i := 0) (v := ?_) rfl (by kernel_rfl) (by kernel_rfl) (by kernel_rfl) (fun _ _ _ h => h) (Or.inl ⟨by rfl, ?_⟩) (by assumption) ?_
          rotate_left
          · intro w hSw
            go_simp
            try (with_reducible rfl)
          (simp only [Act.put, List.getElem_toArray, List.getElem_cons_succ, List.getElem_cons_zero, List.setIfInBounds_toArray, List.set_cons_zero, List.set_cons_succ])
          refine wpAnyH_take (i := 1) (v := ?_) rfl (by kernel_rfl) (by kernel_rfl) (by kernel_rfl) (fun _ _ _ h => h) (Or.inl ⟨by rfl, ?_⟩) (by assumption) ?_
          rotate_left
          · intro w hSw
            go_simp
            try (with_reducible rfl)
          (simp only [Act.put, List.getElem_toArray, List.getElem_cons_succ, List.getElem_cons_zero, List.setIfInBounds_toArray, List.set_cons_zero, List.set_cons_succ])
          refine wpAnyH_take (i := 2) (v := ?_) rfl (by kernel_rfl) (by kernel_rfl) (by kernel_rfl) (fun _ _ _ h => h) (Or.inl ⟨by rfl, ?_⟩) (by assumption) ?_
          rotate_left
          · intro w hSw
            go_simp
            try (with_reducible rfl)
          (simp only [Act.put, List.getElem_toArray, List.getElem_cons_succ, List.getElem_cons_zero, List.setIfInBounds_toArray, List.set_cons_zero, List.set_cons_succ])
          refine wpAnyH_take (i := 3) (v := ?_) rfl (by kernel_rfl) (by kernel_rfl) (by kernel_rfl) (fun _ _ _ h => h) (Or.inl ⟨by rfl, ?_⟩) (by assumption) ?_
          rotate_left
          · intro w hSw
            go_simp
            try (with_reducible rfl)
          (simp only [Act.put, List.getElem_toArray, List.getElem_cons_succ, List.getElem_cons_zero, List.setIfInBounds_toArray, List.set_cons_zero, List.set_cons_succ])
          refine wpAnyH_take (i := 4) (v := ?_) rfl (by kernel_rfl) (by kernel_rfl) (by kernel_rfl) (fun _ _ _ h => h) (Or.inl ⟨by rfl, ?_⟩) (by assumption) ?_
          rotate_left
          · intro w hSw
            (have h1 := hSw.1)
            go_simp
            try (with_reducible rfl)
          (simp only [Act.put, List.getElem_toArray, List.getElem_cons_succ, List.getElem_cons_zero, List.setIfInBounds_toArray, List.set_cons_zero, List.set_cons_succ])
          refine wpAnyH_take (i := 5) (v := ?_) rfl (by kernel_rfl) (by kernel_rfl) (by kernel_rfl) (fun _ _ _ h => h) (Or.inl ⟨by rfl, ?_⟩) (by assumption) ?_
          rotate_left
          · intro w hSw
            go_simp
            try (with_reducible rfl)
          (simp only [Act.put, List.getElem_toArray, List.getElem_cons_succ, List.getElem_cons_zero, List.setIfInBounds_toArray, List.set_cons_zero, List.set_cons_succ])
          refine wpAnyH_take (i := 6) (v := ?_) rfl (by kernel_rfl) (by kernel_rfl) (by kernel_rfl) (fun _ _ _ h => h) (Or.inl ⟨by rfl, ?_⟩) (by assumption) ?_
          rotate_left
          · intro w hSw
            go_simp
            try (with_reducible rfl)
          (simp only [Act.put, List.getElem_toArray, List.getElem_cons_succ, List.getElem_cons_zero, List.setIfInBounds_toArray, List.set_cons_zero, List.set_cons_succ])
          refine wpAnyH_take (i := 7) (v := ?_) rfl (by kernel_rfl) (by kernel_rfl) (by kernel_rfl) (fun _ _ _ h => h) (Or.inl ⟨by rfl, ?_⟩) (by assumption) ?_
          rotate_left
          · intro w hSw
            go_simp
            try (with_reducible rfl)
          (simp only [Act.put, List.getElem_toArray, List.getElem_cons_succ, List.getElem_cons_zero, List.setIfInBounds_toArray, List.set_cons_zero, List.set_cons_succ])
          refine wpAnyH_take (i := 8) (v := ?_) rfl (by kernel_rfl) (by kernel_rfl) (by kernel_rfl) (fun _ _ _ h => h) (Or.inl ⟨by rfl, ?_⟩) (by assumption) ?_
          rotate_left
          · intro w hSw
            go_simp
            try (with_reducible rfl)
          (simp only [Act.put, List.getElem_toArray, List.getElem_cons_succ, List.getElem_cons_zero, List.setIfInBounds_toArray, List.set_cons_zero, List.set_cons_succ])
          refine wpAnyH_take (i := 9) (v := ?_) rfl (by kernel_rfl) (by kernel_rfl) (by kernel_rfl) (fun _ _ _ h => h) (Or.inl ⟨by rfl, ?_⟩) (by assumption) ?_
          rotate_left
          · intro w hSw
            (have h1 := hSw.2.2.1)
            go_simp
            try (with_reducible rfl)
          (simp only [Act.put, List.getElem_toArray, List.getElem_cons_succ, List.getElem_cons_zero, List.setIfInBounds_toArray, List.set_cons_zero, List.set_cons_succ])
          refine wpAnyH_take (i := 10) (v := ?_) rfl (by kernel_rfl) (by kernel_rfl) (by kernel_rfl) (fun _ _ _ h => h) (Or.inl ⟨by rfl, ?_⟩) (by assumption) ?_
          rotate_left
          · intro w hSw
            go_simp
            try (with_reducible rfl)
          (simp only [Act.put, List.getElem_toArray, List.getElem_cons_succ, List.getElem_cons_zero, List.setIfInBounds_toArray, List.set_cons_zero, List.set_cons_succ])
          refine wpAnyH_take (i := 11) (v := ?_) rfl (by kernel_rfl) (by kernel_rfl) (by kernel_rfl) (fun _ _ _ h => h) (Or.inl ⟨by rfl, ?_⟩) (by assumption) ?_
          rotate_left
          · intro w hSw
            go_simp
            try (with_reducible rfl)
          (simp only [Act.put, List.getElem_toArray, List.getElem_cons_succ, List.getElem_cons_zero, List.setIfInBounds_toArray, List.set_cons_zero, List.set_cons_succ])
          refine wpAnyH_take (i := 12) (v := ?_) rfl (by kernel_rfl) (by kernel_rfl) (by kernel_rfl) (fun _ _ _ h => h) (Or.inl ⟨by rfl, ?_⟩) (by assumption) ?_
          rotate_left
          · intro w hSw
            go_simp
            try (with_reducible rfl)
          (simp only [Act.put, List.getElem_toArray, List.getElem_cons_succ, List.getElem_cons_zero, List.setIfInBounds_toArray, List.set_cons_zero, List.set_cons_succ])
          refine wpAnyH_take (i := 13) (v := ?_) rfl (by kernel_rfl) (by kernel_rfl) (by kernel_rfl) (fun _ _ _ h => h) (Or.inl ⟨by rfl, ?_⟩) (by assumption) ?_
          rotate_left
          · intro w hSw
            go_simp
            try (with_reducible rfl)
          (simp only [Act.put, List.getElem_toArray, List.getElem_cons_succ, List.getElem_cons_zero, List.setIfInBounds_toArray, List.set_cons_zero, List.set_cons_succ])
          refine wpAnyH_take (i := 14) (v := ?_) rfl (by kernel_rfl) (by kernel_rfl) (by kernel_rfl) (fun _ _ _ h => h) (Or.inl ⟨by rfl, ?_⟩) (by assumption) ?_
          rotate_left
          · intro w hSw
            go_simp
            try (with_reducible rfl)
          (simp only [Act.put, List.getElem_toArray, List.getElem_cons_succ, List.getElem_cons_zero, List.setIfInBounds_toArray, List.set_cons_zero, List.set_cons_succ])
          refine wpAnyH_take (i := 15) (v := ?_) rfl (by kernel_rfl) (by kernel_rfl) (by kernel_rfl) (fun _ _ _ h => h) (Or.inl ⟨by rfl, ?_⟩) (by assumption) ?_
          rotate_left
          · intro w hSw
            go_simp
            try (with_reducible rfl)
          (simp only [Act.put, List.getElem_toArray, List.getElem_cons_succ, List.getElem_cons_zero, List.setIfInBounds_toArray, List.set_cons_zero, List.set_cons_succ])
          refine wpAnyH_take (i := 16) (v := ?_) rfl (by kernel_rfl) (by kernel_rfl) (by kernel_rfl) (fun _ _ _ h => h) (Or.inl ⟨by rfl, ?_⟩) (by assumption) ?_
          rotate_left
          · intro w hSw
            (have h1 := hSw.2.1)
            go_simp
            try (with_reducible rfl)
          (simp only [Act.put, List.getElem_toArray, List.getElem_cons_succ, List.getElem_cons_zero, List.setIfInBounds_toArray, List.set_cons_zero, List.set_cons_succ])
          refine wpAnyH_take (i := 17) (v := ?_) rfl (by kernel_rfl) (by kernel_rfl) (by kernel_rfl) (fun _ _ _ h => h) (Or.inl ⟨by rfl, ?_⟩) (by assumption) ?_
          rotate_left
          · intro w hSw
            go_simp
            try (with_reducible rfl)
          (simp only [Act.put, List.getElem_toArray, List.getElem_cons_succ, List.getElem_cons_zero, List.setIfInBounds_toArray, List.set_cons_zero, List.set_cons_succ])
          refine wpAnyH_take (i := 18) (v := ?_) rfl (by kernel_rfl) (by kernel_rfl) (by kernel_rfl) (fun _ _ _ h => h) (Or.inl ⟨by rfl, ?_⟩) (by assumption) ?_
          rotate_left
          · intro w hSw
            go_simp
            try (with_reducible rfl)
          (simp only [Act.put, List.getElem_toArray, List.getElem_cons_succ, List.getElem_cons_zero, List.setIfInBounds_toArray, List.set_cons_zero, List.set_cons_succ])
          refine wpAnyH_take (i := 19) (v := ?_) rfl (by kernel_rfl) (by kernel_rfl) (by kernel_rfl) (fun _ _ _ h => h) (Or.inl ⟨by rfl, ?_⟩) (by assumption) ?_
          rotate_left
          · intro w hSw
            go_simp
            try (with_reducible rfl)
          (simp only [Act.put, List.getElem_toArray, List.getElem_cons_succ, List.getElem_cons_zero, List.setIfInBounds_toArray, List.set_cons_zero, List.set_cons_succ])
          refine wpAnyH_take (i := 20) (v := ?_) rfl (by kernel_rfl) (by kernel_rfl) (by kernel_rfl) (fun _ _ _ h => h) (Or.inl ⟨by rfl, ?_⟩) (by assumption) ?_
          rotate_left
          · intro w hSw
            go_simp
            try (with_reducible rfl)
          (simp only [Act.put, List.getElem_toArray, List.getElem_cons_succ, List.getElem_cons_zero, List.setIfInBounds_toArray, List.set_cons_zero, List.set_cons_succ])
          refine wpAnyH_take (i := 21) (v := ?_) rfl (by kernel_rfl) (by kernel_rfl) (by kernel_rfl) (fun _ _ _ h => h) (Or.inl ⟨by rfl, ?_⟩) (by assumption) ?_
          rotate_left
          · intro w hSw
            (have h1 := hSw.2.2.2)
            go_simp
            try (with_reducible rfl)
          (simp only [Act.put, List.getElem_toArray, List.getElem_cons_succ, List.getElem_cons_zero, List.setIfInBounds_toArray, List.set_cons_zero, List.set_cons_succ])
          refine wpAnyH_ready (rs := [22]) (by kernel_rfl) (by simp) ?_
          refine AllReadyH.cons rfl (fun K hK => ?_) AllReadyH.nil
          go_simp
          (go_wp2_with (go_at_call 35; (with_reducible refine (same15_calls _ _ c.set d.set _ HR.out.drew HR'.out.drew).mono ?_); rintro e w5 ⟨r5, rfl, hr5, hb5⟩; have HR5 := Lib.hid hr5; have HB5 := Lib.hid hb5; clear hr5 hb5))
          refine hK.out _ _ ?_ ?_
          · (exact ⟨(HB5.out.cell (p := ⟨b, off + k * 2, none⟩) HBS.out).trans H0.out, (HB5.out.cell (p := ⟨b, off + k * 2 + 1, none⟩) HBS.out).trans H1.out, (HB5.out.cell (p := ⟨b', off' + k * 2, none⟩) HBS'.out).trans H0'.out, (HB5.out.cell (p := ⟨b', off' + k * 2 + 1, none⟩) HBS'.out).trans H1'.out⟩)
          intro hHeld
          clear hK K
          have HB6 : Hid (Below w.heap.size w w5) := Lib.hid ((below_drewN HB.out 1).trans (HB5.out.mono HB.out.size))
          refine wpAnyH_take (i := 23) (v := ?_) rfl (by kernel_rfl) (by kernel_rfl) (by kernel_rfl) (fun _ _ _ h => h) (Or.inl ⟨by rfl, ?_⟩) (by assumption) ?_
          rotate_left
          · intro w hSw
            go_simp
            try (with_reducible rfl)
          (simp only [Act.put, List.getElem_toArray, List.getElem_cons_succ, List.getElem_cons_zero, List.setIfInBounds_toArray, List.set_cons_zero, List.set_cons_succ])
          refine wpAnyH_take (i := 24) (v := ?_) rfl (by kernel_rfl) (by kernel_rfl) (by kernel_rfl) (fun _ _ _ h => h) (Or.inl ⟨by rfl, ?_⟩) (by assumption) ?_
          rotate_left
          · intro w hSw
            go_simp
            try (with_reducible rfl)
          (simp only [Act.put, List.getElem_toArray, List.getElem_cons_succ, List.getElem_cons_zero, List.setIfInBounds_toArray, List.set_cons_zero, List.set_cons_succ])
          refine wpAnyH_done (by kernel_rfl) ?_ _
          cases r5 with
          | true =>
            have HE : Hid (cs[k]? = ds[k]?) := Lib.hid (by
              have h1 := HR5.out.1 (by trivial)
              have h2 := HST.out
              rw [HC.out, HD.out]
              cases c; cases d; simp at h1 h2; rw [h1, h2])
            go_wp2
            go_roundw
            case rel =>
              refine ⟨k + 1, hlt, by go_num, fun j hj => ?_, HB6.out⟩
              by_cases e : j = k
              · subst e
                exact HE.out
              · exact HYES.out j (by omega)
            case measure => simp [intOf]; omega
          | false =>
            have HN : Hid (¬ cs = ds) := Lib.hid (fun h => by have := HR5.out.2 (by rw [HEQ.out h]); cases this)
            go_wp2
            go_ret
            first | exact ⟨_, rfl, by simp [HN.out], HB6.out⟩ | exact .inl ⟨rfl, HN.out, HB6.out⟩
        · have HN : Hid (¬ cs = ds) := Lib.hid (fun h => hst (by rw [HEQ.out h]))
          have t1 : ((c.stamp : Int) != (d.stamp : Int)) = true := by rw [bne_iff_ne]; omega
          have t2 : ((c.stamp : Int) == (d.stamp : Int)) = false := by rw [beq_eq_false_iff_ne]; omega
          have t3 : (c.stamp == d.stamp) = false := by rw [beq_eq_false_iff_ne]; omega
          clear hst
          go_wp2
          refine wp_region_held_drew (S := (fun W : World => W.cell? ⟨b, off + k * 2, none⟩ = some (.int .u64 c.stamp) ∧ W.cell? ⟨b', off' + k * 2, none⟩ = some (.int .u64 d.stamp))) (by kernel_rfl) ?_ (fun hHeld => ?_)
          · (exact ⟨H0.out, H0'.out⟩)
          try (change wpAnyH _ _ _ _ _ _ _ _ (World.drew _))
          refine wpAnyH_take (i := 0) (v := ?_) rfl (by kernel_rfl) (by kernel_rfl) (by kernel_rfl) (fun _ _ _ h => h) (Or.inl ⟨by rfl, ?_⟩) (by assumption) ?_
          rotate_left
          · intro w hSw
            go_simp
            try (with_reducible rfl)
          (simp only [Act.put, List.getElem_toArray, List.getElem_cons_succ, List.getElem_cons_zero, List.setIfInBounds_toArray, List.set_cons_zero, List.set_cons_succ])
          refine wpAnyH_take (i := 1) (v := ?_) rfl (by kernel_rfl) (by kernel_rfl) (by kernel_rfl) (fun _ _ _ h => h) (Or.inl ⟨by rfl, ?_⟩) (by assumption) ?_
          rotate_left
          · intro w hSw
            go_simp
            try (with_reducible rfl)
          (simp only [Act.put, List.getElem_toArray, List.getElem_cons_succ, List.getElem_cons_zero, List.setIfInBounds_toArray, List.set_cons_zero, List.set_cons_succ])
          refine wpAnyH_take (i := 2) (v := ?_) rfl (by kernel_rfl) (by kernel_rfl) (by kernel_rfl) (fun _ _ _ h => h) (Or.inl ⟨by rfl, ?_⟩) (by assumption) ?_
          rotate_left
          · intro w hSw
            go_simp
            try (with_reducible rfl)
          (simp only [Act.put, List.getElem_toArray, List.getElem_cons_succ, List.getElem_cons_zero, List.setIfInBounds_toArray, List.set_cons_zero, List.set_cons_succ])
          refine wpAnyH_take (i := 3) (v := ?_) rfl (by kernel_rfl) (by kernel_rfl) (by kernel_rfl) (fun _ _ _ h => h) (Or.inl ⟨by rfl, ?_⟩) (by assumption) ?_
          rotate_left
          · intro w hSw
            go_simp
            try (with_reducible rfl)
          (simp only [Act.put, List.getElem_toArray, List.getElem_cons_succ, List.getElem_cons_zero, List.setIfInBounds_toArray, List.set_cons_zero, List.set_cons_succ])
          refine wpAnyH_take (i := 4) (v := ?_) rfl (by kernel_rfl) (by kernel_rfl) (by kernel_rfl) (fun _ _ _ h => h) (Or.inl ⟨by rfl, ?_⟩) (by assumption) ?_
          rotate_left
          · intro w hSw
            (have h1 := hSw.1)
            go_simp
            try (with_reducible rfl)
          (simp only [Act.put, List.getElem_toArray, List.getElem_cons_succ, List.getElem_cons_zero, List.setIfInBounds_toArray, List.set_cons_zero, List.set_cons_succ])
          refine wpAnyH_take (i := 5) (v := ?_) rfl (by kernel_rfl) (by kernel_rfl) (by kernel_rfl) (fun _ _ _ h => h) (Or.inl ⟨by rfl, ?_⟩) (by assumption) ?_
          rotate_left
          · intro w hSw
            go_simp
            try (with_reducible rfl)
          (simp only [Act.put, List.getElem_toArray, List.getElem_cons_succ, List.getElem_cons_zero, List.setIfInBounds_toArray, List.set_cons_zero, List.set_cons_succ])
          refine wpAnyH_take (i := 6) (v := ?_) rfl (by kernel_rfl) (by kernel_rfl) (by kernel_rfl) (fun _ _ _ h => h) (Or.inl ⟨by rfl, ?_⟩) (by assumption) ?_
          rotate_left
          · intro w hSw
            go_simp
            try (with_reducible rfl)
          (simp only [Act.put, List.getElem_toArray, List.getElem_cons_succ, List.getElem_cons_zero, List.setIfInBounds_toArray, List.set_cons_zero, List.set_cons_succ])
          refine wpAnyH_take (i := 7) (v := ?_) rfl (by kernel_rfl) (by kernel_rfl) (by kernel_rfl) (fun _ _ _ h => h) (Or.inl ⟨by rfl, ?_⟩) (by assumption) ?_
          rotate_left
          · intro w hSw
            go_simp
            try (with_reducible rfl)
          (simp only [Act.put, List.getElem_toArray, List.getElem_cons_succ, List.getElem_cons_zero, List.setIfInBounds_toArray, List.set_cons_zero, List.set_cons_succ])
          refine wpAnyH_take (i := 8) (v := ?_) rfl (by kernel_rfl) (by kernel_rfl) (by kernel_rfl) (fun _ _ _ h => h) (Or.inl ⟨by rfl, ?_⟩) (by assumption) ?_
          rotate_left
          · intro w hSw
            go_simp
            try (with_reducible rfl)
          (simp only [Act.put, List.getElem_toArray, List.getElem_cons_succ, List.getElem_cons_zero, List.setIfInBounds_toArray, List.set_cons_zero, List.set_cons_succ])
          refine wpAnyH_take (i := 9) (v := ?_) rfl (by kernel_rfl) (by kernel_rfl) (by kernel_rfl) (fun _ _ _ h => h) (Or.inl ⟨by rfl, ?_⟩) (by assumption) ?_
          rotate_left
          · intro w hSw
            (have h1 := hSw.2)
            go_simp
            try (with_reducible rfl)
          (simp only [Act.put, List.getElem_toArray, List.getElem_cons_succ, List.getElem_cons_zero, List.setIfInBounds_toArray, List.set_cons_zero, List.set_cons_succ])
          refine wpAnyH_take (i := 10) (v := ?_) rfl (by kernel_rfl) (by kernel_rfl) (by kernel_rfl) (fun _ _ _ h => h) (Or.inl ⟨by rfl, ?_⟩) (by assumption) ?_
          rotate_left
          · intro w hSw
            go_simp
            try (with_reducible rfl)
          (simp only [Act.put, List.getElem_toArray, List.getElem_cons_succ, List.getElem_cons_zero, List.setIfInBounds_toArray, List.set_cons_zero, List.set_cons_succ])
          refine wpAnyH_take (i := 11) (v := ?_) rfl (by kernel_rfl) (by kernel_rfl) (by kernel_rfl) (fun _ _ _ h => h) (Or.inl ⟨by rfl, ?_⟩) (by assumption) ?_
          rotate_left
          · intro w hSw
            go_simp
            try (with_reducible rfl)
          (simp only [Act.put, List.getElem_toArray, List.getElem_cons_succ, List.getElem_cons_zero, List.setIfInBounds_toArray, List.set_cons_zero, List.set_cons_succ])
          refine wpAnyH_take (i := 12) (v := undef) rfl (by kernel_rfl) (by kernel_rfl) (by kernel_rfl) (fun _ _ _ h => h) (Or.inr ⟨by rfl, rfl⟩) (by assumption) ?_
          (simp only [Act.put, List.getElem_toArray, List.getElem_cons_succ, List.getElem_cons_zero, List.setIfInBounds_toArray, List.set_cons_zero, List.set_cons_succ])
          refine wpAnyH_take (i := 13) (v := undef) rfl (by kernel_rfl) (by kernel_rfl) (by kernel_rfl) (fun _ _ _ h => h) (Or.inr ⟨by rfl, rfl⟩) (by assumption) ?_
          (simp only [Act.put, List.getElem_toArray, List.getElem_cons_succ, List.getElem_cons_zero, List.setIfInBounds_toArray, List.set_cons_zero, List.set_cons_succ])
          refine wpAnyH_take (i := 14) (v := undef) rfl (by kernel_rfl) (by kernel_rfl) (by kernel_rfl) (fun _ _ _ h => h) (Or.inr ⟨by rfl, rfl⟩) (by assumption) ?_
          (simp only [Act.put, List.getElem_toArray, List.getElem_cons_succ, List.getElem_cons_zero, List.setIfInBounds_toArray, List.set_cons_zero, List.set_cons_succ])
          refine wpAnyH_take (i := 15) (v := undef) rfl (by kernel_rfl) (by kernel_rfl) (by kernel_rfl) (fun _ _ _ h => h) (Or.inr ⟨by rfl, rfl⟩) (by assumption) ?_
          (simp only [Act.put, List.getElem_toArray, List.getElem_cons_succ, List.getElem_cons_zero, List.setIfInBounds_toArray, List.set_cons_zero, List.set_cons_succ])
          refine wpAnyH_take (i := 16) (v := undef) rfl (by kernel_rfl) (by kernel_rfl) (by kernel_rfl) (fun _ _ _ h => h) (Or.inr ⟨by rfl, rfl⟩) (by assumption) ?_
          (simp only [Act.put, List.getElem_toArray, List.getElem_cons_succ, List.getElem_cons_zero, List.setIfInBounds_toArray, List.set_cons_zero, List.set_cons_succ])
          refine wpAnyH_take (i := 17) (v := undef) rfl (by kernel_rfl) (by kernel_rfl) (by kernel_rfl) (fun _ _ _ h => h) (Or.inr ⟨by rfl, rfl⟩) (by assumption) ?_
          (simp only [Act.put, List.getElem_toArray, List.getElem_cons_succ, List.getElem_cons_zero, List.setIfInBounds_toArray, List.set_cons_zero, List.set_cons_succ])
          refine wpAnyH_take (i := 18) (v := undef) rfl (by kernel_rfl) (by kernel_rfl) (by kernel_rfl) (fun _ _ _ h => h) (Or.inr ⟨by rfl, rfl⟩) (by assumption) ?_
          (simp only [Act.put, List.getElem_toArray, List.getElem_cons_succ, List.getElem_cons_zero, List.setIfInBounds_toArray, List.set_cons_zero, List.set_cons_succ])
          refine wpAnyH_take (i := 19) (v := undef) rfl (by kernel_rfl) (by kernel_rfl) (by kernel_rfl) (fun _ _ _ h => h) (Or.inr ⟨by rfl, rfl⟩) (by assumption) ?_
          (simp only [Act.put, List.getElem_toArray, List.getElem_cons_succ, List.getElem_cons_zero, List.setIfInBounds_toArray, List.set_cons_zero, List.set_cons_succ])
          refine wpAnyH_take (i := 20) (v := undef) rfl (by kernel_rfl) (by kernel_rfl) (by kernel_rfl) (fun _ _ _ h => h) (Or.inr ⟨by rfl, rfl⟩) (by assumption) ?_
          (simp only [Act.put, List.getElem_toArray, List.getElem_cons_succ, List.getElem_cons_zero, List.setIfInBounds_toArray, List.set_cons_zero, List.set_cons_succ])
          refine wpAnyH_take (i := 21) (v := undef) rfl (by kernel_rfl) (by kernel_rfl) (by kernel_rfl) (fun _ _ _ h => h) (Or.inr ⟨by rfl, rfl⟩) (by assumption) ?_
          (simp only [Act.put, List.getElem_toArray, List.getElem_cons_succ, List.getElem_cons_zero, List.setIfInBounds_toArray, List.set_cons_zero, List.set_cons_succ])
          refine wpAnyH_take (i := 22) (v := undef) rfl (by kernel_rfl) (by kernel_rfl) (by kernel_rfl) (fun _ _ _ h => h) (Or.inr ⟨by rfl, rfl⟩) (by assumption) ?_
          (simp only [Act.put, List.getElem_toArray, List.getElem_cons_succ, List.getElem_cons_zero, List.setIfInBounds_toArray, List.set_cons_zero, List.set_cons_succ])
          refine wpAnyH_take (i := 23) (v := undef) rfl (by kernel_rfl) (by kernel_rfl) (by kernel_rfl) (fun _ _ _ h => h) (Or.inr ⟨by rfl, rfl⟩) (by assumption) ?_
          (simp only [Act.put, List.getElem_toArray, List.getElem_cons_succ, List.getElem_cons_zero, List.setIfInBounds_toArray, List.set_cons_zero, List.set_cons_succ])
          refine wpAnyH_take (i := 24) (v := ?_) rfl (by kernel_rfl) (by kernel_rfl) (by kernel_rfl) (fun _ _ _ h => h) (Or.inl ⟨by rfl, ?_⟩) (by assumption) ?_
          rotate_left
          · intro w hSw
            go_simp
            try (with_reducible rfl)
          (simp only [Act.put, List.getElem_toArray, List.getElem_cons_succ, List.getElem_cons_zero, List.setIfInBounds_toArray, List.set_cons_zero, List.set_cons_succ])
          refine wpAnyH_done (by kernel_rfl) ?_ _
          go_wp2
          go_ret
          first | exact ⟨_, rfl, by simp [HN.out], below_drewN HB.out 1⟩ | exact .inl ⟨rfl, HN.out, below_drewN HB.out 1⟩
      · have HALL : Hid (cs = ds) := Lib.hid (List.ext_getElem? fun j => by
          rcases Nat.lt_or_ge j cs.length with h | h
          · exact HYES.out j (by omega)
          · rw [List.getElem?_eq_none h, List.getElem?_eq_none (by have := HL.out; omega)])
        go_wp2
        go_ret
        exact ⟨_, rfl, by simp [HALL.out], HB.out⟩
  · have HN : Hid (¬ cs = ds) := Lib.hid (fun h => hl (by rw [h]))
    have t1 : ((cs.length : Int) == (ds.length : Int)) = false := by rw [beq_eq_false_iff_ne]; omega
    have t2 : ((cs.length : Int) != (ds.length : Int)) = true := by rw [bne_iff_ne]; omega
    clear hl
    go_enter Try.func18, Try.ntmps18
    go_wp2
    go_ret
    first | exact ⟨_, rfl, by simp [HN.out], Below.refl _ w⟩ | exact .inl ⟨rfl, HN.out, Below.refl _ w⟩
set_option maxHeartbeats 800000 in
theorem rclash_calls (v u : Value) (cs : List Ct) (s : List Wr) (at' : Nat) (w : World) (hI : Coms w v cs) (hJ : Rows EW w u s) :
    Calls Try.prog 23 #[v, u, .int .u64 at'] w fun e w' => e = .returned (.bool (clashB cs s at')) ∧ Below w.heap.size w w' := by
  obtain ⟨a, cap, rfl⟩ := hI.slice
  have HI := Lib.hid hI
  have HJ := Lib.hid hJ
  have hle := hI.le
  have hcap := hI.cap_le
  clear hI hJ
  go_enter Try.func23, Try.ntmps23
  go_wp2
  go_loopw [7] (fun i wr => ∃ k : Nat, k ≤ cs.length ∧ i = .int .i64 k ∧ (∀ (j : Nat) c, j < k → cs[j]? = some c → clash1 s at' c = false) ∧ Below w.heap.size w wr) (fun i _ => cs.length - (intOf i).toNat)
  case atStart => exact ⟨0, Nat.zero_le _, rfl, fun j y hj => absurd hj (by omega), Below.refl _ _⟩
  case round =>
    obtain ⟨k, hk, rfl, hno, hbw⟩ := hrel
    have HNO := Lib.hid hno
    have HB := Lib.hid hbw
    by_cases hlt : k < cs.length
    · obtain ⟨c, hc⟩ : ∃ c, cs[k]? = some c := ⟨_, List.getElem?_eq_getElem hlt⟩
      have HX := Lib.hid hc
      have HNO' : Hid (clash1 s at' c = false → ∀ (j : Nat) d, j < k + 1 → cs[j]? = some d → clash1 s at' d = false) := Lib.hid (fun h j d hj hd => by
        by_cases e : j = k
        · subst e
          have := HX.out.symm.trans hd
          simp only [Option.some.injEq] at this
          subst this
          exact h
        · exact HNO.out j d (by omega) hd)
      obtain ⟨bb, off, sa, sn, sc, rfl, hz, hc0, hc1, hr⟩ := (HI.out.below hbw).c2 hc
      have HR := Lib.hid hr
      have HJR := Lib.hid (HJ.out.below hbw)
      clear hz hc hno hbw hr
      by_cases h1 : at' < c.stamp
      · have HC1 : Hid (clash1 s at' c = meetB c.set s) := Lib.hid (by unfold clash1; rw [decide_eq_true h1, Bool.true_and])
        go_wp2_with fail
        refine (rmeet_calls _ _ _ _ _ HR.out HJR.out).mono ?_
        rintro e w5 ⟨rfl, hb5⟩
        have HB5 := Lib.hid (HB.out.trans (hb5.mono HB.out.size))
        clear hb5
        cases hm : meetB c.set s
        · have HN := Lib.hid (HNO'.out (by rw [HC1.out, hm]))
          clear hm
          go_wp2
          go_roundw
          case rel => exact ⟨k + 1, hlt, by go_num, HN.out, HB5.out⟩
          case measure => simp [intOf]; omega
        · have HM : Hid (clashB cs s at' = true) := Lib.hid (any_hit HX.out (by rw [HC1.out, hm]))
          clear hm
          go_wp2
          go_ret
          exact ⟨ret_bool HM.out.symm, HB5.out⟩
      · have HN := Lib.hid (HNO'.out (by unfold clash1; rw [decide_eq_false h1, Bool.false_and]))
        go_wp2
        go_roundw
        case rel => exact ⟨k + 1, hlt, by go_num, HN.out, HB.out⟩
        case measure => simp [intOf]; omega
    · obtain rfl : k = cs.length := by omega
      have HM : Hid (clashB cs s at' = false) := Lib.hid (any_miss HNO.out)
      clear hlt hk hno hbw
      go_wp2
      go_ret
      exact ⟨ret_bool HM.out.symm, HB.out⟩
set_option maxHeartbeats 800000 in
theorem radd_end (v u : Value) (cs : List Ct) (w : World) (hI : Coms w v cs) (h : 60000 ≤ lastN cs) :
    Calls Try.prog 17 #[v, u] w fun e w' => e = .returned (.tuple #[v, .int .i64 10]) ∧ w = w' := by
  obtain ⟨a, cap, rfl⟩ := hI.slice
  have HI := Lib.hid hI
  have t0 : decide ((60000 : Int) ≤ (lastN cs : Int)) = true := by simp; omega
  clear hI h
  go_enter Try.func17, Try.ntmps17
  go_wp2_with fail
  refine (rlast_calls _ cs _ HI.out).mono ?_
  rintro e w2 ⟨rfl, rfl⟩
  go_wp2
  go_ret2
  exact ⟨rfl, rfl⟩
set_option maxHeartbeats 800000 in
theorem radd_more (v u : Value) (cs : List Ct) (s : List Wr) (w : World) (hI : Coms w v cs) (hJ : Rows EW w u s) (hl : cs.length ≤ 900) (h : lastN cs < 60000) :
    Calls Try.prog 17 #[v, u] w fun e w' => ∃ v', e = .returned (.tuple #[v', .int .i64 0]) ∧ Coms w' v' (cs ++ [⟨lastN cs + 1, s⟩]) ∧ Below w.heap.size w w' := by
  obtain ⟨l, hr, hs⟩ := hI.sets
  obtain ⟨a, cap, rfl⟩ := hI.slice
  obtain ⟨ua, uc, rfl⟩ := hJ.slice
  have HI := Lib.hid hI
  have HR := Lib.hid hr
  have HS := Lib.hid hs
  have HJ := Lib.hid hJ
  have HL : Hid (l.length ≤ 900) := Lib.hid (by rw [hs.1]; exact hl)
  have HLC : Hid (l.length = cs.length) := Lib.hid hs.1
  have t0 : decide ((60000 : Int) ≤ (lastN cs : Int)) = false := by simp; omega
  have hlt : lastN cs < 60000 := h
  have HE : Hid (OwnR EC 62 (w.alloc (.cells #[] 62)) w.heap.size (.slice (some ⟨w.heap.size, 0, none⟩) 0 0) []) := Lib.hid (World.ownsRow_made w #[] 0 (Nat.le_refl _) (by simp [maxLen]) (by simp))
  clear hI hr hs hl h hJ
  go_enter Try.func17, Try.ntmps17
  go_wp2_with fail
  refine (rlast_calls _ cs _ HI.out).mono ?_
  rintro e w2 ⟨rfl, rfl⟩
  go_wp2_with (at_builtin; refine wpList_growRg rfl (.tmp 11) (.tmp 12) 22 rfl rowRC w.heap.size _ [] rfl HE.out _ l rfl (by rw [← HLC.out]; rw [← HLC.out] at HR; exact HR.out.alloc _) 1000 ?c2 ⟨by simp [maxLen], by omega⟩ ?c1 ?_; (case c1 => simp); (case c2 => (have := HL.out; simp; omega)); intro A4 c4 w4 hown4 hb4 _; have HOWN4 := Lib.hid hown4; have HB4 := Lib.hid hb4; clear hown4 hb4)
  have HOWN5 : Hid (OwnR EC 62 w4 w.heap.size (.slice A4 l.length c4) l) := Lib.hid (by have h := HOWN4.out; rw [List.length_nil, Nat.zero_add, List.nil_append] at h; exact h)
  have HB5 : Hid (Below w.heap.size w w4) := Lib.hid (((Below.refl _ w).alloc (Nat.le_refl _) (.cells #[] 62)).trans HB4.out)
  clear HOWN4
  refine (rlast_calls _ cs _ (HI.out.below HB5.out)).mono ?_
  rintro e w2 ⟨rfl, rfl⟩
  have HNEW : Hid (Rows EC (w4.alloc (.cells #[.int .u64 ((lastN cs : Int) + 1), .slice ua s.length uc] 62)) (.slice (some ⟨w4.heap.size, 0, none⟩) 1 1) [⟨lastN cs + 1, ua, s.length, uc⟩]) := Lib.hid (by have e := rows_new EC w4 62 ⟨lastN cs + 1, ua, s.length, uc⟩; simpa [EC] using e)
  go_wp2_with (at_builtin; refine wpList_growRg rfl (.tmp 14) (.tmp 20) 22 rfl rowRC w.heap.size _ l rfl (HOWN5.out.alloc _) _ [⟨lastN cs + 1, ua, s.length, uc⟩] rfl HNEW.out 1000 ?c2 ⟨by simp [maxLen], by omega⟩ ?c1 ?_; (case c1 => (have := HB5.out.size; simp; omega)); (case c2 => (have := HL.out; simp; omega)); intro A6 c6 w6 hown6 hb6 _; have HOWN6 := Lib.hid hown6; have HB6 := Lib.hid hb6; clear hown6 hb6)
  go_ret2
  have hw6 : Below w.heap.size w w6 := (HB5.out.alloc HB5.out.size _).trans HB6.out
  exact ⟨_, rfl, Coms.of (HOWN6.out.rows (by have := HL.out; simp; omega)) ((HS.out.below hw6).snoc rfl (HJ.out.below hw6)), hw6⟩
/-- what is seen of a key: the newest write of it, among the commits up to a stamp -/
def readO (cs : List Ct) (key : ByteArray) (at' : Nat) : Option Wr := cs.foldl (fun acc c => if c.stamp ≤ at' then (getS c.set key).or acc else acc) none
def rawT (o : Option Wr) : ByteArray := match o with | some x => x.text | none => ByteArray.empty
def seenB (o : Option Wr) : Bool := match o with | some x => !x.gone | none => false
def seenT (o : Option Wr) : ByteArray := if seenB o then rawT o else ByteArray.empty
theorem readO_snoc (cs : List Ct) (c : Ct) (key : ByteArray) (at' : Nat) : readO (cs ++ [c]) key at' = if c.stamp ≤ at' then (getS c.set key).or (readO cs key at') else readO cs key at' := by
  unfold readO
  rw [List.foldl_append]
  rfl
set_option maxHeartbeats 1600000 in
theorem rread_calls (v : Value) (cs : List Ct) (key : ByteArray) (at' : Nat) (w : World) (hI : Coms w v cs) :
    Calls Try.prog 29 #[v, .string key, .int .u64 at'] w fun e w' => e = .returned (.tuple #[.string (seenT (readO cs key at')), .bool (seenB (readO cs key at'))]) ∧ Below w.heap.size w w' := by
  obtain ⟨a, cap, rfl⟩ := hI.slice
  have HI := Lib.hid hI
  have hle := hI.le
  have hcap := hI.cap_le
  have HX : Hid (cs.take cs.length = cs) := Lib.hid (List.take_length)
  clear hI
  go_enter Try.func29, Try.ntmps29
  go_wp2
  go_loopw [8, 9, 10, 11, 12] (fun t b i _ _ wr => ∃ k : Nat, k ≤ cs.length ∧ i = .int .i64 k ∧ t = .string (rawT (readO (cs.take k) key at')) ∧ b = .bool (seenB (readO (cs.take k) key at')) ∧ Below w.heap.size w wr) (fun _ _ i _ _ _ => cs.length - (intOf i).toNat)
  case atStart => exact ⟨0, Nat.zero_le _, rfl, rfl, rfl, Below.refl _ _⟩
  case round =>
    obtain ⟨k, hk, rfl, rfl, rfl, hbw⟩ := hrel
    have HB := Lib.hid hbw
    by_cases hlt : k < cs.length
    · obtain ⟨c, hc⟩ : ∃ c, cs[k]? = some c := ⟨_, List.getElem?_eq_getElem hlt⟩
      have HT : Hid (cs.take (k + 1) = cs.take k ++ [c]) := Lib.hid (by rw [List.take_add_one, hc]; rfl)
      obtain ⟨bb, off, sa, sn, sc, rfl, hz, hc0, hc1, hr⟩ := (HI.out.below hbw).c2 hc
      have HR := Lib.hid hr
      have HBS : Hid (bb < wr.heap.size) := Lib.hid (World.block_lt_of_cell? _ _ hc0)
      have H0 := Lib.hid hc0
      generalize cs.take k = CS at *
      clear hz hc hbw hr
      go_wp2_with fail
      refine (rget_calls _ _ _ _ HR.out).mono ?_
      rintro e w5 ⟨rfl, hb5⟩
      have HC5 : Hid (w5.cell? ⟨bb, off + k * 2, none⟩ = some (.int .u64 c.stamp)) := Lib.hid ((hb5.cell (p := ⟨bb, off + k * 2, none⟩) HBS.out).trans H0.out)
      have HB5 := Lib.hid (HB.out.trans (hb5.mono HB.out.size))
      have hgs : ∃ o, getS c.set key = o := ⟨_, rfl⟩
      obtain ⟨o, ho⟩ := hgs
      rw [ho]
      have HG := Lib.hid ho
      clear hb5 hc0 hc1 ho
      have hc5 := HC5.out
      have hbb5 : bb < w5.heap.size := World.block_lt_of_cell? _ _ hc5
      cases o with
      | none =>
        have HN : Hid (readO (CS ++ [c]) key at' = readO CS key at') := Lib.hid (by rw [readO_snoc, HG.out, Option.none_or, ite_self])
        have HB6 := Lib.hid (HB5.out.alloc HB5.out.size (.cells #[.string ByteArray.empty, .string ByteArray.empty, .bool false] 52))
        unfold getV
        go_wp2
        go_roundw
        case rel => exact ⟨k + 1, hlt, by go_num, by rw [HT.out, HN.out], by rw [HT.out, HN.out], HB6.out⟩
        case measure => simp [intOf]; omega
      | some x =>
        have HB6 := Lib.hid (HB5.out.alloc HB5.out.size (.cells #[.string x.key, .string x.text, .bool x.gone] 52))
        unfold getV
        by_cases hst : c.stamp ≤ at'
        · have HN : Hid (readO (CS ++ [c]) key at' = some x) := Lib.hid (by rw [readO_snoc, HG.out, if_pos hst]; rfl)
          go_wp2
          go_roundw
          case rel => exact ⟨k + 1, hlt, by go_num, by rw [HT.out, HN.out]; rfl, by rw [HT.out, HN.out]; rfl, HB6.out⟩
          case measure => simp [intOf]; omega
        · have HN : Hid (readO (CS ++ [c]) key at' = readO CS key at') := Lib.hid (by rw [readO_snoc, if_neg hst])
          go_wp2
          go_roundw
          case rel => exact ⟨k + 1, hlt, by go_num, by rw [HT.out, HN.out], by rw [HT.out, HN.out], HB6.out⟩
          case measure => simp [intOf]; omega
    · obtain rfl : k = cs.length := by omega
      rw [HX.out]
      clear hlt hk hbw
      cases hs : seenB (readO cs key at')
      · have HT : Hid (seenT (readO cs key at') = ByteArray.empty) := Lib.hid (by unfold seenT; rw [hs]; rfl)
        have HS := Lib.hid hs
        clear hs
        go_wp2
        go_ret2
        exact ⟨by rw [HT.out, HS.out]; rfl, HB.out⟩
      · have HT : Hid (seenT (readO cs key at') = rawT (readO cs key at')) := Lib.hid (by unfold seenT; rw [hs]; rfl)
        have HS := Lib.hid hs
        clear hs
        go_wp2
        go_ret2
        exact ⟨by rw [HT.out, HS.out]; rfl, HB.out⟩
end Go.Proofs.Ytdeecdebhigafaa
