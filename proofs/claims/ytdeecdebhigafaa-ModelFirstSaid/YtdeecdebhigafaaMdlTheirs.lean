/- MODEL: the same store, as the program's and as the document's. -/
import Derived.Test.YtdeecdebhigafaaMdlAdd
import Derived.Test.YtdeecdebhigafaaHeld
import Derived.Test.YtdeecdebhigafaaMdlCopy
namespace Go.Proofs.Ytdeecdebhigafaa
open Go Go.RowKit
set_option linter.unusedSimpArgs false

/-- sets of commits, each in a row of its own -/
def SetsO (t : TypeId) (w : World) (B : Nat) (l : List Cl) (cs : List Ct) : Prop := l.length = cs.length ∧ ∀ (i : Nat) x c, l[i]? = some x → cs[i]? = some c → x.stamp = c.stamp ∧ OwnR EW t w B (.slice x.a x.n x.cap) c.set
theorem SetsO.below {t : TypeId} {w w' : World} {B : Nat} {l : List Cl} {cs : List Ct} (h : SetsO t w B l cs) (hb : Below w.heap.size w w') : SetsO t w' B l cs := ⟨h.1, fun i x c hx hc => ⟨(h.2 i x c hx hc).1, (h.2 i x c hx hc).2.below hb⟩⟩
theorem SetsO.sets {t : TypeId} {w : World} {B : Nat} {l : List Cl} {cs : List Ct} (h : SetsO t w B l cs) (hF : ∀ c ∈ cs, c.set.length ≤ 60) : Sets w l cs := ⟨h.1, fun i x c hx hc => ⟨(h.2 i x c hx hc).1, (h.2 i x c hx hc).2.rows (by have := hF c (List.mem_of_getElem? hc); omega)⟩⟩
theorem SetsO.grown {β : Type} {E' : Wide β} {t e' : TypeId} {w w' : World} {B b' : Nat} {l : List Cl} {cs : List Ct} {v' : Value} {l' : List β} (h : SetsO t w B l cs) (h' : OwnR E' e' w b' v' l') (hne : t ≠ e') (hg : w.grownBy w' v'.ownBlock) : SetsO t w' B l cs :=
  ⟨h.1, fun i x c hx hc => ⟨(h.2 i x c hx hc).1, (h.2 i x c hx hc).2.grown h' hne hg⟩⟩
theorem SetsO.snoc {t : TypeId} {w : World} {B : Nat} {l : List Cl} {cs : List Ct} {x : Cl} {c : Ct} (h : SetsO t w B l cs) (hs : x.stamp = c.stamp) (hr : OwnR EW t w B (.slice x.a x.n x.cap) c.set) : SetsO t w B (l ++ [x]) (cs ++ [c]) := by
  refine ⟨by rw [List.length_append, List.length_append, h.1]; rfl, fun i y d hy hd => ?_⟩
  rcases Nat.lt_trichotomy i l.length with hi | hi | hi
  · rw [List.getElem?_append_left hi] at hy
    rw [List.getElem?_append_left (by rw [← h.1]; exact hi)] at hd
    exact h.2 i y d hy hd
  · subst hi
    rw [List.getElem?_append_right (Nat.le_refl _), Nat.sub_self] at hy
    rw [List.getElem?_append_right (by rw [h.1]; exact Nat.le_refl _), h.1, Nat.sub_self] at hd
    simp only [List.getElem?_cons_zero, Option.some.injEq] at hy hd
    subst hy hd
    exact ⟨hs, hr⟩
  · rw [List.getElem?_append_right (by omega), List.getElem?_eq_none (by simp; omega)] at hy
    cases hy
set_option maxHeartbeats 800000 in
theorem theirs16_calls (v : Value) (cs : List Ct) (w : World) (hI : Coms w v cs) (hF : ∀ c ∈ cs, c.set.length ≤ 60) (hl : cs.length ≤ 900) :
    Calls Try.prog 14 #[v] w fun e w' => ∃ v', e = .returned v' ∧ Coms w' v' cs ∧ Below w.heap.size w w' := by
  obtain ⟨a, cap, rfl⟩ := hI.slice
  have HI := Lib.hid hI
  have HF := Lib.hid hF
  have HL := Lib.hid hl
  have HX : Hid (cs.take cs.length = cs) := Lib.hid (List.take_length)
  have hle := hI.le
  have hcap := hI.cap_le
  clear hI hF hl
  go_enter Try.func14, Try.ntmps14
  go_wp2
  go_loopw [3, 5, 8] (fun ov _ i wr => ∃ (k : Nat) (l : List Cl), k ≤ cs.length ∧ i = .int .i64 k ∧ OwnR EC 72 wr w.heap.size ov l ∧ SetsO 70 wr w.heap.size l (cs.take k) ∧ Below w.heap.size w wr) (fun _ _ i _ => cs.length - (intOf i).toNat)
  case atStart => exact ⟨0, [], Nat.zero_le _, rfl, OwnR.nil_ _ _ _ _, ⟨rfl, fun i x c h => by cases h⟩, Below.refl _ _⟩
  case round =>
    obtain ⟨k, l, hk, rfl, hown, hsets, hbw⟩ := hrel
    have HB := Lib.hid hbw
    by_cases hlt : k < cs.length
    · obtain ⟨c, hc⟩ : ∃ c, cs[k]? = some c := ⟨_, List.getElem?_eq_getElem hlt⟩
      have HT : Hid (cs.take (k + 1) = cs.take k ++ [c]) := Lib.hid (by rw [List.take_add_one, hc]; rfl)
      have HLK : Hid (l.length = k) := Lib.hid (by rw [hsets.1, List.length_take]; omega)
      have HC60 := Lib.hid (HF.out c (List.mem_of_getElem? hc))
      obtain ⟨b, off, sa, sn, sc, rfl, hz, hc0, hc1, hr⟩ := (HI.out.below hbw).c2 hc
      have HR := Lib.hid hr
      generalize cs.take k = CS at *
      obtain ⟨oa, oc, rfl⟩ := hown.slice
      have HOWN := Lib.hid hown
      have HSETS := Lib.hid hsets
      clear hz hc hown hsets hbw hr
      go_wp2
      refine wp_region_held_drew (S := (fun W : World => W.cell? ⟨wr.heap.size, 0, none⟩ = some (.int .u64 c.stamp) ∧ W.cell? ⟨wr.heap.size, 1, none⟩ = some (.slice sa sn sc))) (by kernel_rfl) ?_ (fun hHeld => ?_)
      · (exact ⟨by simp, by simp⟩)
      try (change wpAnyH _ _ _ _ _ _ _ _ (World.drew _))
      refine wpAnyH_take (i := 0) (v := ?_) rfl (by kernel_rfl) (by kernel_rfl) (by kernel_rfl) (fun _ _ _ h => h) (Or.inl ⟨by rfl, ?_⟩) (by assumption) ?_
      rotate_left
      · intro w hSw
        go_simp
        try (with_reducible rfl)
      (simp only [Act.put, List.getElem_toArray, List.getElem_cons_succ, List.getElem_cons_zero, List.setIfInBounds_toArray, List.set_cons_zero, List.set_cons_succ])
      refine wpAnyH_take (i := 1) (v := ?_) rfl (by kernel_rfl) (by kernel_rfl) (by kernel_rfl) (fun _ _ _ h => h) (Or.inl ⟨by rfl, ?_⟩) (by assumption) ?_
      rotate_left
      · intro w hSw
        go_simp
        try (with_reducible rfl)
      (simp only [Act.put, List.getElem_toArray, List.getElem_cons_succ, List.getElem_cons_zero, List.setIfInBounds_toArray, List.set_cons_zero, List.set_cons_succ])
      refine wpAnyH_take (i := 2) (v := ?_) rfl (by kernel_rfl) (by kernel_rfl) (by kernel_rfl) (fun _ _ _ h => h) (Or.inl ⟨by rfl, ?_⟩) (by assumption) ?_
      rotate_left
      · intro w hSw
        (have h1 := hSw.1)
        go_simp
        try (with_reducible rfl)
      (simp only [Act.put, List.getElem_toArray, List.getElem_cons_succ, List.getElem_cons_zero, List.setIfInBounds_toArray, List.set_cons_zero, List.set_cons_succ])
      refine wpAnyH_take (i := 3) (v := ?_) rfl (by kernel_rfl) (by kernel_rfl) (by kernel_rfl) (fun _ _ _ h => h) (Or.inl ⟨by rfl, ?_⟩) (by assumption) ?_
      rotate_left
      · intro w hSw
        go_simp
        try (with_reducible rfl)
      (simp only [Act.put, List.getElem_toArray, List.getElem_cons_succ, List.getElem_cons_zero, List.setIfInBounds_toArray, List.set_cons_zero, List.set_cons_succ])
      refine wpAnyH_take (i := 4) (v := ?_) rfl (by kernel_rfl) (by kernel_rfl) (by kernel_rfl) (fun _ _ _ h => h) (Or.inl ⟨by rfl, ?_⟩) (by assumption) ?_
      rotate_left
      · intro w hSw
        (have h1 := hSw.2)
        go_simp
        try (with_reducible rfl)
      (simp only [Act.put, List.getElem_toArray, List.getElem_cons_succ, List.getElem_cons_zero, List.setIfInBounds_toArray, List.set_cons_zero, List.set_cons_succ])
      refine wpAnyH_ready (rs := [5]) (by kernel_rfl) (by simp) ?_
      refine AllReadyH.cons rfl (fun K hK => ?_) AllReadyH.nil
      go_simp
      (go_wp2_with (go_at_call 16; (with_reducible refine (theirs15_calls _ c.set _ ((HR.out.alloc _).drew) HC60.out).mono ?_); rintro e w5 ⟨v5, rfl, ho5, hb5⟩; obtain ⟨A5, c5, e5⟩ := ho5.slice; subst e5; have HO5 := Lib.hid ho5; have HB5 := Lib.hid hb5; clear ho5 hb5))
      refine hK.out _ _ ?_ ?_
      · (exact ⟨(HB5.out.cell (p := ⟨wr.heap.size, 0, none⟩) (by simp)).trans (by simp), (HB5.out.cell (p := ⟨wr.heap.size, 1, none⟩) (by simp)).trans (by simp)⟩)
      intro hHeld
      clear hK K
      have HS5 := Lib.hid hHeld
      clear hHeld
      have HBW5 : Hid (Below wr.heap.size wr w5) := Lib.hid ((below_drewN ((Below.refl wr.heap.size wr).alloc (Nat.le_refl _) (.cells #[.int .u64 c.stamp, .slice sa sn sc] 62)) 1).trans (HB5.out.mono (by simp)))
      refine wpAnyH_take (i := 6) (v := ?_) rfl (by kernel_rfl) (by kernel_rfl) (by kernel_rfl) (fun _ _ _ h => h) (Or.inl ⟨by rfl, ?_⟩) (by assumption) ?_
      rotate_left
      · intro w hSw
        go_simp
        try (with_reducible rfl)
      (simp only [Act.put, List.getElem_toArray, List.getElem_cons_succ, List.getElem_cons_zero, List.setIfInBounds_toArray, List.set_cons_zero, List.set_cons_succ])
      have HNEW : Hid (Rows EC (w5.alloc (.cells #[.int .u64 c.stamp, .slice A5 c.set.length c5] 72)) (.slice (some ⟨w5.heap.size, 0, none⟩) 1 1) [⟨c.stamp, A5, c.set.length, c5⟩]) := Lib.hid (rows_new EC w5 72 ⟨c.stamp, A5, c.set.length, c5⟩)
      refine wpAnyH_ready (rs := [7]) (by kernel_rfl) (by simp) ?_
      refine AllReadyH.cons rfl (fun K hK => ?_) AllReadyH.nil
      go_simp
      (skip)
      refine hK.out _ _ ?_ ?_
      · (exact ⟨(World.cell?_alloc_some _ _ _ (by rw [HS5.out.1]; rfl)).trans HS5.out.1, (World.cell?_alloc_some _ _ _ (by rw [HS5.out.2]; rfl)).trans HS5.out.2⟩)
      intro hHeld
      clear hK K
      have HS7 := Lib.hid hHeld
      clear hHeld
      have HO7 : Hid (OwnR EC 72 (w5.alloc (.cells #[.int .u64 c.stamp, .slice A5 c.set.length c5] 72)) w.heap.size (.slice oa l.length oc) l) := Lib.hid ((HOWN.out.below HBW5.out).alloc _)
      refine wpAnyH_ready (rs := [8]) (by kernel_rfl) (by simp) ?_
      refine AllReadyH.cons rfl (fun K hK => ?_) AllReadyH.nil
      (refine step_growRg rfl (.tmp 12) (.tmp 19) 29 rfl rowC w.heap.size _ l rfl HO7.out _ [⟨c.stamp, A5, c.set.length, c5⟩] rfl HNEW.out 1000 (by have := HLK.out; have := HL.out; simp; omega) ⟨by simp [maxLen], by omega⟩ (by have := HB.out.size; have := HBW5.out.size; simp; omega) ?_; intro A8 c8 w8 ho8 hb8 hg8; have HO8 := Lib.hid ho8; have HB8 := Lib.hid hb8; have HG8 := Lib.hid hg8; clear ho8 hb8 hg8)
      (simp only [Act.put, List.getElem_toArray, List.getElem_cons_succ, List.getElem_cons_zero, List.setIfInBounds_toArray, List.set_cons_zero, List.set_cons_succ])
      refine hK.out _ _ ?_ ?_
      · (exact ⟨HOWN.out.cell_kept HG8.out (Nat.le_refl _) HS7.out.1, HOWN.out.cell_kept HG8.out (Nat.le_refl _) HS7.out.2⟩)
      intro hHeld
      clear hK K
      refine wpAnyH_take (i := 9) (v := ?_) rfl (by kernel_rfl) (by kernel_rfl) (by kernel_rfl) (fun _ _ _ h => h) (Or.inl ⟨by rfl, ?_⟩) (by assumption) ?_
      rotate_left
      · intro w hSw
        go_simp
        try (with_reducible rfl)
      (simp only [Act.put, List.getElem_toArray, List.getElem_cons_succ, List.getElem_cons_zero, List.setIfInBounds_toArray, List.set_cons_zero, List.set_cons_succ])
      refine wpAnyH_done (by kernel_rfl) ?_ _
      have HS8 : Hid (SetsO 70 w8 w.heap.size (l ++ [⟨c.stamp, A5, c.set.length, c5⟩]) (CS ++ [c])) := Lib.hid
        (((HSETS.out.below HBW5.out).below ((Below.refl w5.heap.size w5).alloc (Nat.le_refl _) (.cells #[.int .u64 c.stamp, .slice A5 c.set.length c5] 72))).grown HO7.out (by decide) HG8.out |>.snoc rfl
          (((HO5.out.mono (by have := HB.out.size; simp; omega)).alloc _).grown HO7.out (by decide) HG8.out))
      have HB8' : Hid (Below w.heap.size w w8) := Lib.hid (((HB.out.trans (HBW5.out.mono HB.out.size)).alloc (by have := HB.out.size; have := HBW5.out.size; omega) _).trans HB8.out)
      go_wp2
      go_roundw
      case rel => exact ⟨k + 1, _, hlt, by go_num, HO8.out, by rw [HT.out]; exact HS8.out, HB8'.out⟩
      case measure => simp [intOf]; omega
    · obtain rfl : k = cs.length := by omega
      rw [HX.out] at hsets
      obtain ⟨oa, oc, rfl⟩ := hown.slice
      have HC : Hid (Coms wr (.slice oa l.length oc) cs) := Lib.hid (Coms.of (hown.rows (by have := hsets.1; have := HL.out; omega)) (hsets.sets HF.out))
      clear hlt hk hown hsets hbw
      go_wp2
      go_ret
      exact ⟨_, rfl, HC.out, HB.out⟩
set_option maxHeartbeats 800000 in
theorem ours16_calls (v : Value) (cs : List Ct) (w : World) (hI : Coms w v cs) (hF : ∀ c ∈ cs, c.set.length ≤ 60) (hl : cs.length ≤ 900) :
    Calls Try.prog 19 #[v] w fun e w' => ∃ v', e = .returned v' ∧ Coms w' v' cs ∧ Below w.heap.size w w' := by
  obtain ⟨a, cap, rfl⟩ := hI.slice
  have HI := Lib.hid hI
  have HF := Lib.hid hF
  have HL := Lib.hid hl
  have HX : Hid (cs.take cs.length = cs) := Lib.hid (List.take_length)
  have hle := hI.le
  have hcap := hI.cap_le
  clear hI hF hl
  go_enter Try.func19, Try.ntmps19
  go_wp2
  go_loopw [3, 5, 8] (fun ov _ i wr => ∃ (k : Nat) (l : List Cl), k ≤ cs.length ∧ i = .int .i64 k ∧ OwnR EC 62 wr w.heap.size ov l ∧ SetsO 52 wr w.heap.size l (cs.take k) ∧ Below w.heap.size w wr) (fun _ _ i _ => cs.length - (intOf i).toNat)
  case atStart => exact ⟨0, [], Nat.zero_le _, rfl, OwnR.nil_ _ _ _ _, ⟨rfl, fun i x c h => by cases h⟩, Below.refl _ _⟩
  case round =>
    obtain ⟨k, l, hk, rfl, hown, hsets, hbw⟩ := hrel
    have HB := Lib.hid hbw
    by_cases hlt : k < cs.length
    · obtain ⟨c, hc⟩ : ∃ c, cs[k]? = some c := ⟨_, List.getElem?_eq_getElem hlt⟩
      have HT : Hid (cs.take (k + 1) = cs.take k ++ [c]) := Lib.hid (by rw [List.take_add_one, hc]; rfl)
      have HLK : Hid (l.length = k) := Lib.hid (by rw [hsets.1, List.length_take]; omega)
      have HC60 := Lib.hid (HF.out c (List.mem_of_getElem? hc))
      obtain ⟨b, off, sa, sn, sc, rfl, hz, hc0, hc1, hr⟩ := (HI.out.below hbw).c2 hc
      have HR := Lib.hid hr
      generalize cs.take k = CS at *
      obtain ⟨oa, oc, rfl⟩ := hown.slice
      have HOWN := Lib.hid hown
      have HSETS := Lib.hid hsets
      clear hz hc hown hsets hbw hr
      go_wp2
      refine wp_region_held_drew (S := (fun W : World => W.cell? ⟨wr.heap.size, 0, none⟩ = some (.int .u64 c.stamp) ∧ W.cell? ⟨wr.heap.size, 1, none⟩ = some (.slice sa sn sc))) (by kernel_rfl) ?_ (fun hHeld => ?_)
      · (exact ⟨by simp, by simp⟩)
      try (change wpAnyH _ _ _ _ _ _ _ _ (World.drew _))
      refine wpAnyH_take (i := 0) (v := ?_) rfl (by kernel_rfl) (by kernel_rfl) (by kernel_rfl) (fun _ _ _ h => h) (Or.inl ⟨by rfl, ?_⟩) (by assumption) ?_
      rotate_left
      · intro w hSw
        go_simp
        try (with_reducible rfl)
      (simp only [Act.put, List.getElem_toArray, List.getElem_cons_succ, List.getElem_cons_zero, List.setIfInBounds_toArray, List.set_cons_zero, List.set_cons_succ])
      refine wpAnyH_take (i := 1) (v := ?_) rfl (by kernel_rfl) (by kernel_rfl) (by kernel_rfl) (fun _ _ _ h => h) (Or.inl ⟨by rfl, ?_⟩) (by assumption) ?_
      rotate_left
      · intro w hSw
        go_simp
        try (with_reducible rfl)
      (simp only [Act.put, List.getElem_toArray, List.getElem_cons_succ, List.getElem_cons_zero, List.setIfInBounds_toArray, List.set_cons_zero, List.set_cons_succ])
      refine wpAnyH_take (i := 2) (v := ?_) rfl (by kernel_rfl) (by kernel_rfl) (by kernel_rfl) (fun _ _ _ h => h) (Or.inl ⟨by rfl, ?_⟩) (by assumption) ?_
      rotate_left
      · intro w hSw
        (have h1 := hSw.1)
        go_simp
        try (with_reducible rfl)
      (simp only [Act.put, List.getElem_toArray, List.getElem_cons_succ, List.getElem_cons_zero, List.setIfInBounds_toArray, List.set_cons_zero, List.set_cons_succ])
      refine wpAnyH_take (i := 3) (v := ?_) rfl (by kernel_rfl) (by kernel_rfl) (by kernel_rfl) (fun _ _ _ h => h) (Or.inl ⟨by rfl, ?_⟩) (by assumption) ?_
      rotate_left
      · intro w hSw
        go_simp
        try (with_reducible rfl)
      (simp only [Act.put, List.getElem_toArray, List.getElem_cons_succ, List.getElem_cons_zero, List.setIfInBounds_toArray, List.set_cons_zero, List.set_cons_succ])
      refine wpAnyH_take (i := 4) (v := ?_) rfl (by kernel_rfl) (by kernel_rfl) (by kernel_rfl) (fun _ _ _ h => h) (Or.inl ⟨by rfl, ?_⟩) (by assumption) ?_
      rotate_left
      · intro w hSw
        (have h1 := hSw.2)
        go_simp
        try (with_reducible rfl)
      (simp only [Act.put, List.getElem_toArray, List.getElem_cons_succ, List.getElem_cons_zero, List.setIfInBounds_toArray, List.set_cons_zero, List.set_cons_succ])
      refine wpAnyH_ready (rs := [5]) (by kernel_rfl) (by simp) ?_
      refine AllReadyH.cons rfl (fun K hK => ?_) AllReadyH.nil
      go_simp
      (go_wp2_with (go_at_call 36; (with_reducible refine (ours15_calls _ c.set _ ((HR.out.alloc _).drew) HC60.out).mono ?_); rintro e w5 ⟨v5, rfl, ho5, hb5⟩; obtain ⟨A5, c5, e5⟩ := ho5.slice; subst e5; have HO5 := Lib.hid ho5; have HB5 := Lib.hid hb5; clear ho5 hb5))
      refine hK.out _ _ ?_ ?_
      · (exact ⟨(HB5.out.cell (p := ⟨wr.heap.size, 0, none⟩) (by simp)).trans (by simp), (HB5.out.cell (p := ⟨wr.heap.size, 1, none⟩) (by simp)).trans (by simp)⟩)
      intro hHeld
      clear hK K
      have HS5 := Lib.hid hHeld
      clear hHeld
      have HBW5 : Hid (Below wr.heap.size wr w5) := Lib.hid ((below_drewN ((Below.refl wr.heap.size wr).alloc (Nat.le_refl _) (.cells #[.int .u64 c.stamp, .slice sa sn sc] 72)) 1).trans (HB5.out.mono (by simp)))
      refine wpAnyH_take (i := 6) (v := ?_) rfl (by kernel_rfl) (by kernel_rfl) (by kernel_rfl) (fun _ _ _ h => h) (Or.inl ⟨by rfl, ?_⟩) (by assumption) ?_
      rotate_left
      · intro w hSw
        go_simp
        try (with_reducible rfl)
      (simp only [Act.put, List.getElem_toArray, List.getElem_cons_succ, List.getElem_cons_zero, List.setIfInBounds_toArray, List.set_cons_zero, List.set_cons_succ])
      have HNEW : Hid (Rows EC (w5.alloc (.cells #[.int .u64 c.stamp, .slice A5 c.set.length c5] 62)) (.slice (some ⟨w5.heap.size, 0, none⟩) 1 1) [⟨c.stamp, A5, c.set.length, c5⟩]) := Lib.hid (rows_new EC w5 62 ⟨c.stamp, A5, c.set.length, c5⟩)
      refine wpAnyH_ready (rs := [7]) (by kernel_rfl) (by simp) ?_
      refine AllReadyH.cons rfl (fun K hK => ?_) AllReadyH.nil
      go_simp
      (skip)
      refine hK.out _ _ ?_ ?_
      · (exact ⟨(World.cell?_alloc_some _ _ _ (by rw [HS5.out.1]; rfl)).trans HS5.out.1, (World.cell?_alloc_some _ _ _ (by rw [HS5.out.2]; rfl)).trans HS5.out.2⟩)
      intro hHeld
      clear hK K
      have HS7 := Lib.hid hHeld
      clear hHeld
      have HO7 : Hid (OwnR EC 62 (w5.alloc (.cells #[.int .u64 c.stamp, .slice A5 c.set.length c5] 62)) w.heap.size (.slice oa l.length oc) l) := Lib.hid ((HOWN.out.below HBW5.out).alloc _)
      refine wpAnyH_ready (rs := [8]) (by kernel_rfl) (by simp) ?_
      refine AllReadyH.cons rfl (fun K hK => ?_) AllReadyH.nil
      (refine step_growRg rfl (.tmp 12) (.tmp 19) 22 rfl rowRC w.heap.size _ l rfl HO7.out _ [⟨c.stamp, A5, c.set.length, c5⟩] rfl HNEW.out 1000 (by have := HLK.out; have := HL.out; simp; omega) ⟨by simp [maxLen], by omega⟩ (by have := HB.out.size; have := HBW5.out.size; simp; omega) ?_; intro A8 c8 w8 ho8 hb8 hg8; have HO8 := Lib.hid ho8; have HB8 := Lib.hid hb8; have HG8 := Lib.hid hg8; clear ho8 hb8 hg8)
      (simp only [Act.put, List.getElem_toArray, List.getElem_cons_succ, List.getElem_cons_zero, List.setIfInBounds_toArray, List.set_cons_zero, List.set_cons_succ])
      refine hK.out _ _ ?_ ?_
      · (exact ⟨HOWN.out.cell_kept HG8.out (Nat.le_refl _) HS7.out.1, HOWN.out.cell_kept HG8.out (Nat.le_refl _) HS7.out.2⟩)
      intro hHeld
      clear hK K
      refine wpAnyH_take (i := 9) (v := ?_) rfl (by kernel_rfl) (by kernel_rfl) (by kernel_rfl) (fun _ _ _ h => h) (Or.inl ⟨by rfl, ?_⟩) (by assumption) ?_
      rotate_left
      · intro w hSw
        go_simp
        try (with_reducible rfl)
      (simp only [Act.put, List.getElem_toArray, List.getElem_cons_succ, List.getElem_cons_zero, List.setIfInBounds_toArray, List.set_cons_zero, List.set_cons_succ])
      refine wpAnyH_done (by kernel_rfl) ?_ _
      have HS8 : Hid (SetsO 52 w8 w.heap.size (l ++ [⟨c.stamp, A5, c.set.length, c5⟩]) (CS ++ [c])) := Lib.hid
        (((HSETS.out.below HBW5.out).below ((Below.refl w5.heap.size w5).alloc (Nat.le_refl _) (.cells #[.int .u64 c.stamp, .slice A5 c.set.length c5] 62))).grown HO7.out (by decide) HG8.out |>.snoc rfl
          (((HO5.out.mono (by have := HB.out.size; simp; omega)).alloc _).grown HO7.out (by decide) HG8.out))
      have HB8' : Hid (Below w.heap.size w w8) := Lib.hid (((HB.out.trans (HBW5.out.mono HB.out.size)).alloc (by have := HB.out.size; have := HBW5.out.size; omega) _).trans HB8.out)
      go_wp2
      go_roundw
      case rel => exact ⟨k + 1, _, hlt, by go_num, HO8.out, by rw [HT.out]; exact HS8.out, HB8'.out⟩
      case measure => simp [intOf]; omega
    · obtain rfl : k = cs.length := by omega
      rw [HX.out] at hsets
      obtain ⟨oa, oc, rfl⟩ := hown.slice
      have HC : Hid (Coms wr (.slice oa l.length oc) cs) := Lib.hid (Coms.of (hown.rows (by have := hsets.1; have := HL.out; omega)) (hsets.sets HF.out))
      clear hlt hk hown hsets hbw
      go_wp2
      go_ret
      exact ⟨_, rfl, HC.out, HB.out⟩
end Go.Proofs.Ytdeecdebhigafaa
