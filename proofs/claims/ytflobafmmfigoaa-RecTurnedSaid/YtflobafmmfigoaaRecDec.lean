/- REC: Decode. -/
import Derived.Test.YtflobafmmfigoaaRecREnc
import Derived.Test.YtflobafmmfigoaaNibCommon
import Derived.Test.YtflobafmmfigoaaHeld
import Derived.Laws.ResultCell
namespace Go.Proofs.Ytflobafmmfigoaa
open Go Go.RowKit
set_option linter.unusedSimpArgs false

def recV (s n : Int) (g : Bool) (t : ByteArray) : Value := .agg #[.int .u64 s, .int .u64 n, .bool g, .string t]
def decV : Option (Int × Int × Bool × ByteArray) → Value
  | some r => .tuple #[recV r.1 r.2.1 r.2.2.1 r.2.2.2, .bool true]
  | none => .tuple #[recV 0 0 false ⟨#[]⟩, .bool false]
set_option maxHeartbeats 800000 in
theorem dec_out (v : Value) (l : List Int) (w : World) (hI : Ints .u64 w v l) (h : ¬ decOk l) :
    Calls Try.prog 17 #[v] w fun e w' => e = .returned (decV none) ∧ Below w.heap.size w w' := by
  obtain ⟨a, cap, rfl⟩ := hI.slice
  have HB : Hid (∀ o, Below w.heap.size w (w.alloc o)) := Lib.hid (fun o => (Below.refl w.heap.size w).alloc (Nat.le_refl _) o)
  by_cases h8 : l.length = 8
  · have t1 : ((l.length : Int) != 8) = false := by simp [h8]
    have hgt : 40 < l.getD 0 0 / 65536 := by
      rcases Int.lt_or_le 40 (l.getD 0 0 / 65536) with h' | h'
      · exact h'
      · exact absurd ⟨h8, h'⟩ h
    obtain ⟨b, off, rfl, hcs⟩ := hI.cells (by omega)
    have hc0 := hcs 0 (by omega)
    have hlt := World.block_lt_of_cell? w _ hc0
    have hd0 : ∀ o, (w.alloc o).cell? ⟨b, off, none⟩ = some (.int .u64 (l.getD 0 0)) := fun o => (World.cell?_alloc_lt _ _ _ hlt).trans hc0
    rw [h8] at *
    clear h hcs hc0 hI
    generalize l.getD 0 0 = x at *
    go_enter Try.func17, Try.ntmps17
    go_wp2
    (try simp only [Exit.inBlock, Exit.then])
    refine bodyPost_ret (v := decV none) (by rw [results_cell_tmp rfl]; go_simp; rfl) rfl ⟨rfl, ?_⟩
    exact HB.out _
  · have t1 : ((l.length : Int) != 8) = true := by simp; omega
    go_enter Try.func17, Try.ntmps17
    go_wp2
    (try simp only [Exit.inBlock, Exit.then])
    refine bodyPost_ret (v := decV none) (by rw [results_cell_tmp rfl]; go_simp; rfl) rfl ⟨rfl, ?_⟩
    exact HB.out _

theorem byte_of (y : Int) (k : Nat) (_ : W64 y) : IntKind.u8.wrap (y / 2 ^ (8 * (k % 8))) = y / 256 ^ (k % 8) % 256 := by
  have e : (256 : Int) ^ (k % 8) = 2 ^ (8 * (k % 8)) := by rw [Int.pow_mul]; rfl
  rw [e]
  simp [IntKind.wrap, IntKind.bits, IntKind.signed]
theorem byteAt_bd (l : List Int) (k : Nat) : 0 ≤ byteAt l k ∧ byteAt l k ≤ 255 := by unfold byteAt; omega
set_option maxHeartbeats 1600000 in
theorem dec_in (v : Value) (l : List Int) (w : World) (hI : Ints .u64 w v l) (h : decOk l) :
    Calls Try.prog 17 #[v] w fun e w' => e = .returned (decV (decP l)) ∧ Below w.heap.size w w' := by
  obtain ⟨a, cap, rfl⟩ := hI.slice
  have HB : Hid (∀ o, Below w.heap.size w (w.alloc o)) := Lib.hid (fun o => (Below.refl w.heap.size w).alloc (Nat.le_refl _) o)
  have h8 := h.1
  have t1 : (((8 : Nat) : Int) != 8) = false := by simp
  have hcap := hI.cap_le
  obtain ⟨b, off, rfl, hcs⟩ := hI.cells (by omega)
  have hW : ∀ j, j < 8 → W64 (l.getD j 0) := fun j hj => by
    have : l.getD j 0 = l[j]'(by omega) := by simp [show j < l.length from by omega]
    rw [this]; exact bd_u64 (hI.1 _ (List.getElem_mem _))
  have HW := Lib.hid hW
  have hx0 := hW 0 (by omega)
  have hc0 := hcs 0 (by omega)
  have hlt := World.block_lt_of_cell? w _ hc0
  have hd0 : ∀ o, (w.alloc o).cell? ⟨b, off, none⟩ = some (.int .u64 (l.getD 0 0)) := fun o => (World.cell?_alloc_lt _ _ _ hlt).trans hc0
  obtain ⟨z, hz⟩ := Int.eq_ofNat_of_zero_le (show 0 ≤ l.getD 0 0 / 65536 by have := hx0.1; omega)
  have hz40 : z ≤ 40 := by have := h.2; omega
  have hgt : decide ((40 : Int) < (z : Int)) = false := by simp; omega
  have HTX : Hid (textOf l = strOfNums ((List.range z).map (byteAt l))) := Lib.hid (by unfold textOf; rw [hz]; rfl)
  have HI := Lib.hid hI
  have HD := Lib.hid h
  rw [h8] at hI HI ⊢
  have hzz : l.getD 0 0 / 65536 = (z : Int) := hz
  have HX0 := Lib.hid hx0
  clear hcs hc0 hI hz h8 hx0 h hW
  generalize hx : l.getD 0 0 = x at *
  have HX := Lib.hid hx
  clear hx
  go_enter Try.func17, Try.ntmps17
  go_wp2
  have HD0 := Lib.hid hd0
  have HLT := Lib.hid hlt
  have HBW0 := Lib.hid (HB.out (.cells #[.int .u64 0, .int .u64 0, .bool false, .string ⟨#[]⟩] 29))
  have hsz0 : w.heap.size < (w.alloc (.cells #[.int .u64 0, .int .u64 0, .bool false, .string ⟨#[]⟩] 29)).heap.size := by simp
  have hr0 : (w.alloc (.cells #[.int .u64 0, .int .u64 0, .bool false, .string ⟨#[]⟩] 29)).heap[w.heap.size]? = some (.cells #[.int .u64 0, .int .u64 0, .bool false, .string ⟨#[]⟩] 29 (0, 0)) := heap_alloc_new w _
  have HR0 := Lib.hid hr0
  have HI0 := Lib.hid (HI.out.below ((Below.refl w.heap.size w).alloc (Nat.le_refl _) (.cells #[.int .u64 0, .int .u64 0, .bool false, .string ⟨#[]⟩] 29)))
  clear hd0 hr0
  generalize (w.alloc (.cells #[.int .u64 0, .int .u64 0, .bool false, .string ⟨#[]⟩] 29)) = W0 at *
  go_loopw [4, 25] (fun v i wr => ∃ k : Nat, k ≤ z ∧ i = .int .i64 k ∧ Own .u8 5 wr W0.heap.size v ((List.range k).map (byteAt l)) ∧ Below W0.heap.size W0 wr) (fun _ i _ => z - (intOf i).toNat)
  case atStart => exact ⟨0, Nat.zero_le _, rfl, Own.nil_ _ _ _ _, Below.refl _ _⟩
  case round =>
    obtain ⟨k, hk, rfl, hown, hbw⟩ := hrel
    have HLL : Hid (((List.range k).map (byteAt l)).length = k) := Lib.hid (by simp)
    have HSS : Hid ((List.range (k + 1)).map (byteAt l) = (List.range k).map (byteAt l) ++ [byteAt l k]) := Lib.hid (by rw [List.range_succ, List.map_append]; rfl)
    have HFI : Hid (k = z → strOfNums ((List.range k).map (byteAt l)) = textOf l) := Lib.hid (fun h => by rw [HTX.out, h])
    generalize (List.range k).map (byteAt l) = m at *
    obtain ⟨A, c, rfl⟩ := hown.slice
    have HOWN := Lib.hid hown
    have HBR := Lib.hid hbw
    have HIR := Lib.hid (HI0.out.below hbw)
    clear hown hbw
    by_cases hltz : k < z
    · have hrow : wr.cell? ⟨b, off + (3 + k / 8), none⟩ = some (.int .u64 (l.getD (3 + k / 8) 0)) := by
        obtain ⟨_, _, hb', _, hcs⟩ := HIR.out.row (3 + k / 8) (by have := HD.out.1; omega)
        simp only [Option.some.injEq, Addr.mk.injEq, and_true] at hb'
        obtain ⟨rfl, rfl⟩ := hb'
        exact hcs
      have hby := byte_of (l.getD (3 + k / 8) 0) k (HW.out _ (by omega))
      have hbe : l.getD (3 + k / 8) 0 / 256 ^ (k % 8) % 256 = byteAt l k := rfl
      rw [hbe] at hby
      have hbb := byteAt_bd l k
      have HBB := Lib.hid hbb
      clear hbb
      generalize l.getD (3 + k / 8) 0 = y at *
      generalize byteAt l k = x1 at *
      have HNEW : Hid (Ints .u8 (wr.alloc (.cells #[.int .u8 x1] 5)) (.slice (some ⟨wr.heap.size, 0, none⟩) 1 1) [x1]) := Lib.hid (Ints.ofRow (l := [x1]) (cap := 1) (heap_alloc_new wr _) (by intro q hq; rw [List.mem_singleton] at hq; subst hq; exact wf_u8 HBB.out) (by simp) (by simp) (by intro j hj; simp at hj; subst hj; rfl))
      go_wp2_with (at_builtin; go_loud (refine wpList_grow rfl (.tmp 28) (.tmp 40) 43 rfl rowOf43 W0.heap.size _ m rfl (HOWN.out.alloc _) _ [x1] rfl HNEW.out 41 ?c2 ⟨by simp [maxLen], by omega⟩ ?c1 ?_; (case c1 => (have := HBR.out.size; simp; omega)); (case c2 => (rw [HLL.out]; simp; omega)); intro A4 c4 w4 hown4 hb4))
      go_roundw
      case rel => exact ⟨k + 1, by omega, by go_num, by rw [HSS.out]; exact hown4, (HBR.out.alloc HBR.out.size _).trans hb4⟩
      case measure => simp [intOf]; omega
    · obtain rfl : k = z := by omega
      have hfin := HFI.out rfl
      have HFIN := Lib.hid hfin
      have HW1 := Lib.hid (HW.out 1 (by omega))
      have HW2 := Lib.hid (HW.out 2 (by omega))
      have hm : m.length ≤ 140737488351232 := by rw [HLL.out]; omega
      have HIM := Lib.hid (HOWN.out.ints hm)
      clear hfin hm hltz hk
      have HRD : Hid (∀ W, Ints .u64 W (.slice (some ⟨b, off, none⟩) 8 cap) l → W.cell? ⟨b, off, none⟩ = some (.int .u64 x) ∧ W.cell? ⟨b, off + 1, none⟩ = some (.int .u64 (l.getD 1 0)) ∧ W.cell? ⟨b, off + 2, none⟩ = some (.int .u64 (l.getD 2 0))) := Lib.hid (fun W hW => by
        have hg : ∀ j, j < 8 → W.cell? ⟨b, off + j, none⟩ = some (.int .u64 (l.getD j 0)) := fun j hj => by
          obtain ⟨_, _, hb', _, hcs⟩ := hW.row j (by have := HD.out.1; omega)
          simp only [Option.some.injEq, Addr.mk.injEq, and_true] at hb'
          obtain ⟨rfl, rfl⟩ := hb'
          exact hcs
        refine ⟨?_, hg 1 (by omega), hg 2 (by omega)⟩
        rw [← HX.out]; exact hg 0 (by omega))
      have HCP : Hid (candP l = (l.getD 1 0, l.getD 2 0, bits .and .u64 x 256 != 0, strOfNums m)) := Lib.hid (by unfold candP; rw [HX.out, HFIN.out])
      have HDP : Hid (decP l = if encT (candP l) = l then some (candP l) else none) := Lib.hid (by unfold decP; simp [HD.out])
      rw [HCP.out] at HDP
      unfold encT at HDP
      simp only at HDP
      clear HCP HFIN HFI HTX HX HSS HW
      generalize l.getD 1 0 = s1 at *
      generalize l.getD 2 0 = n1 at *
      generalize hg1 : (bits .and .u64 x 256 != 0) = g1 at *
      go_wp2
      refine wp_region_held_drew (S := (fun W : World => Ints .u8 W (.slice A m.length c) m ∧ Ints .u64 W (.slice (some ⟨b, off, none⟩) 8 cap) l)) (by kernel_rfl) ?_ (fun hHeld => ?_)
      · (exact ⟨HIM.out.drew, HIR.out.drew⟩)
      try (change wpAnyH _ _ _ _ _ _ _ _ (World.drew _))
      refine wpAnyH_take (i := 0) (v := ?_) rfl (by kernel_rfl) (by kernel_rfl) (by kernel_rfl) (fun _ _ _ h => h) (Or.inl ⟨by rfl, ?_⟩) (by assumption) ?_
      rotate_left
      · intro w hSw
        go_simp
        try (with_reducible rfl)
      (simp only [Act.put, List.getElem_toArray, List.getElem_cons_succ, List.getElem_cons_zero, List.setIfInBounds_toArray, List.set_cons_zero, List.set_cons_succ])
      refine wpAnyH_take (i := 1) (v := ?_) rfl (by kernel_rfl) (by kernel_rfl) (by kernel_rfl) (fun _ _ _ h => h) (Or.inl ⟨by rfl, ?_⟩) (by assumption) ?_
      rotate_left
      · intro w hSw
        go_simp
        try (with_reducible rfl)
      (simp only [Act.put, List.getElem_toArray, List.getElem_cons_succ, List.getElem_cons_zero, List.setIfInBounds_toArray, List.set_cons_zero, List.set_cons_succ])
      refine wpAnyH_take (i := 2) (v := ?_) rfl (by kernel_rfl) (by kernel_rfl) (by kernel_rfl) (fun _ _ _ h => h) (Or.inl ⟨by rfl, ?_⟩) (by assumption) ?_
      rotate_left
      · intro w hSw
        (have ⟨r0, r1, r2⟩ := HRD.out _ hSw.2)
        go_simp
        try (with_reducible rfl)
      (simp only [Act.put, List.getElem_toArray, List.getElem_cons_succ, List.getElem_cons_zero, List.setIfInBounds_toArray, List.set_cons_zero, List.set_cons_succ])
      refine wpAnyH_take (i := 3) (v := ?_) rfl (by kernel_rfl) (by kernel_rfl) (by kernel_rfl) (fun _ _ _ h => h) (Or.inl ⟨by rfl, ?_⟩) (by assumption) ?_
      rotate_left
      · intro w hSw
        go_simp
        try (with_reducible rfl)
      (simp only [Act.put, List.getElem_toArray, List.getElem_cons_succ, List.getElem_cons_zero, List.setIfInBounds_toArray, List.set_cons_zero, List.set_cons_succ])
      refine wpAnyH_take (i := 4) (v := ?_) rfl (by kernel_rfl) (by kernel_rfl) (by kernel_rfl) (fun _ _ _ h => h) (Or.inl ⟨by rfl, ?_⟩) (by assumption) ?_
      rotate_left
      · intro w hSw
        go_simp
        try (with_reducible rfl)
      (simp only [Act.put, List.getElem_toArray, List.getElem_cons_succ, List.getElem_cons_zero, List.setIfInBounds_toArray, List.set_cons_zero, List.set_cons_succ])
      refine wpAnyH_take (i := 5) (v := ?_) rfl (by kernel_rfl) (by kernel_rfl) (by kernel_rfl) (fun _ _ _ h => h) (Or.inl ⟨by rfl, ?_⟩) (by assumption) ?_
      rotate_left
      · intro w hSw
        (have ⟨r0, r1, r2⟩ := HRD.out _ hSw.2)
        go_simp
        try (with_reducible rfl)
      (simp only [Act.put, List.getElem_toArray, List.getElem_cons_succ, List.getElem_cons_zero, List.setIfInBounds_toArray, List.set_cons_zero, List.set_cons_succ])
      refine wpAnyH_take (i := 6) (v := ?_) rfl (by kernel_rfl) (by kernel_rfl) (by kernel_rfl) (fun _ _ _ h => h) (Or.inl ⟨by rfl, ?_⟩) (by assumption) ?_
      rotate_left
      · intro w hSw
        go_simp
        try (with_reducible rfl)
      (simp only [Act.put, List.getElem_toArray, List.getElem_cons_succ, List.getElem_cons_zero, List.setIfInBounds_toArray, List.set_cons_zero, List.set_cons_succ])
      refine wpAnyH_take (i := 7) (v := ?_) rfl (by kernel_rfl) (by kernel_rfl) (by kernel_rfl) (fun _ _ _ h => h) (Or.inl ⟨by rfl, ?_⟩) (by assumption) ?_
      rotate_left
      · intro w hSw
        go_simp
        try (with_reducible rfl)
      (simp only [Act.put, List.getElem_toArray, List.getElem_cons_succ, List.getElem_cons_zero, List.setIfInBounds_toArray, List.set_cons_zero, List.set_cons_succ])
      refine wpAnyH_take (i := 8) (v := ?_) rfl (by kernel_rfl) (by kernel_rfl) (by kernel_rfl) (fun _ _ _ h => h) (Or.inl ⟨by rfl, ?_⟩) (by assumption) ?_
      rotate_left
      · intro w hSw
        (have ⟨r0, r1, r2⟩ := HRD.out _ hSw.2)
        go_simp
        try (with_reducible rfl)
      (simp only [Act.put, List.getElem_toArray, List.getElem_cons_succ, List.getElem_cons_zero, List.setIfInBounds_toArray, List.set_cons_zero, List.set_cons_succ])
      refine wpAnyH_take (i := 9) (v := ?_) rfl (by kernel_rfl) (by kernel_rfl) (by kernel_rfl) (fun _ _ _ h => h) (Or.inl ⟨by rfl, ?_⟩) (by assumption) ?_
      rotate_left
      · intro w hSw
        go_simp
        try (with_reducible rfl)
      (simp only [Act.put, List.getElem_toArray, List.getElem_cons_succ, List.getElem_cons_zero, List.setIfInBounds_toArray, List.set_cons_zero, List.set_cons_succ])
      refine wpAnyH_take (i := 10) (v := ?_) rfl (by kernel_rfl) (by kernel_rfl) (by kernel_rfl) (fun _ _ _ h => h) (Or.inl ⟨by rfl, ?_⟩) (by assumption) ?_
      rotate_left
      · intro w hSw
        go_simp
        try (with_reducible rfl)
      (simp only [Act.put, List.getElem_toArray, List.getElem_cons_succ, List.getElem_cons_zero, List.setIfInBounds_toArray, List.set_cons_zero, List.set_cons_succ])
      refine wpAnyH_take (i := 11) (v := ?_) rfl (by kernel_rfl) (by kernel_rfl) (by kernel_rfl) (fun _ _ _ h => h) (Or.inl ⟨by rfl, ?_⟩) (by assumption) ?_
      rotate_left
      · intro w hSw
        go_simp
        try (with_reducible rfl)
      (simp only [Act.put, List.getElem_toArray, List.getElem_cons_succ, List.getElem_cons_zero, List.setIfInBounds_toArray, List.set_cons_zero, List.set_cons_succ])
      refine wpAnyH_take (i := 12) (v := ?_) rfl (by kernel_rfl) (by kernel_rfl) (by kernel_rfl) (fun _ _ _ h => h) (Or.inl ⟨by rfl, ?_⟩) (by assumption) ?_
      rotate_left
      · intro w hSw
        (have hcv := hSw.1.conv')
        go_simp
        try (with_reducible rfl)
      (simp only [Act.put, List.getElem_toArray, List.getElem_cons_succ, List.getElem_cons_zero, List.setIfInBounds_toArray, List.set_cons_zero, List.set_cons_succ])
      refine wpAnyH_take (i := 13) (v := ?_) rfl (by kernel_rfl) (by kernel_rfl) (by kernel_rfl) (fun _ _ _ h => h) (Or.inl ⟨by rfl, ?_⟩) (by assumption) ?_
      rotate_left
      · intro w hSw
        go_simp
        try (with_reducible rfl)
      (simp only [Act.put, List.getElem_toArray, List.getElem_cons_succ, List.getElem_cons_zero, List.setIfInBounds_toArray, List.set_cons_zero, List.set_cons_succ])
      refine wpAnyH_ready (rs := [14]) (by kernel_rfl) (by simp) ?_
      refine AllReadyH.cons rfl (fun K hK => ?_) AllReadyH.nil
      go_simp
      (skip)
      refine hK.out _ _ ?_ ?_
      · (exact ⟨HIM.out.drew.below ((Below.refl _ _).alloc (Nat.le_refl _) _), HIR.out.drew.below ((Below.refl _ _).alloc (Nat.le_refl _) _)⟩)
      intro hHeld
      clear hK K
      refine wpAnyH_ready (rs := [15]) (by kernel_rfl) (by simp) ?_
      refine AllReadyH.cons rfl (fun K hK => ?_) AllReadyH.nil
      go_simp
      (skip)
      refine hK.out _ _ ?_ ?_
      · (exact ⟨(HIM.out.below ((Below.refl _ _).alloc (Nat.le_refl _) _)).drew, (HIR.out.below ((Below.refl _ _).alloc (Nat.le_refl _) _)).drew⟩)
      intro hHeld
      clear hK K
      refine wpAnyH_done (by kernel_rfl) ?_ _
      have HIR2 := Lib.hid hHeld.2
      have HB2 := Lib.hid (HBR.out.alloc HBR.out.size (.cells #[.int .u64 s1, .int .u64 n1, .bool g1, .string (strOfNums m)] 29)).drew
      have hr2 : (wr.alloc (.cells #[.int .u64 s1, .int .u64 n1, .bool g1, .string (strOfNums m)] 29)).drew.heap[wr.heap.size]? = some (.cells #[.int .u64 s1, .int .u64 n1, .bool g1, .string (strOfNums m)] 29 (0, 0)) := heap_alloc_new wr _
      have HR2 := Lib.hid hr2
      clear hHeld hr2
      generalize strOfNums m = T at *
      go_wp2_with fail
      refine (enc_calls s1 n1 g1 T _ HW1.out HW2.out).mono ?_
      rintro e w7 ⟨v7, rfl, hown7, hb7⟩
      have hr7 : w7.heap[wr.heap.size]? = some (.cells #[.int .u64 s1, .int .u64 n1, .bool g1, .string T] 29 (0, 0)) := (hb7.block _ (by simp)).trans HR2.out
      have hz7 : w7.heap[w.heap.size]? = some (.cells #[.int .u64 0, .int .u64 0, .bool false, .string ⟨#[]⟩] 29 (0, 0)) := (hb7.block _ (by have := HBR.out.size; simp; omega)).trans ((HB2.out.block _ hsz0).trans HR0.out)
      have hl7 : (encL s1 n1 g1 T).length ≤ 140737488351232 := by unfold encL; split <;> simp [wl]
      have HI7 := Lib.hid (HIR2.out.below hb7)
      have HB7 := Lib.hid (HBW0.out.trans ((HB2.out.mono (Nat.le_of_lt hsz0)).trans (hb7.mono (by have := HBR.out.size; simp; omega))))
      have HO7 := Lib.hid (hown7.ints hl7)
      have HE8 := Lib.hid HD.out.1
      by_cases hok : recOk s1 g1 T
      · by_cases heq : encL s1 n1 g1 T = l
        · have hdp := HDP.out
          rw [if_pos heq] at hdp
          have HDQ := Lib.hid hdp
          clear hdp
          have k0 : w7.cell? ⟨wr.heap.size, 0, none⟩ = some (.int .u64 s1) := cell_of_row w7 _ 0 _ _ _ hr7
          have k1 : w7.cell? ⟨wr.heap.size, 1, none⟩ = some (.int .u64 n1) := cell_of_row w7 _ 1 _ _ _ hr7
          have k2 : w7.cell? ⟨wr.heap.size, 2, none⟩ = some (.bool g1) := cell_of_row w7 _ 2 _ _ _ hr7
          have k3 : w7.cell? ⟨wr.heap.size, 3, none⟩ = some (.string T) := cell_of_row w7 _ 3 _ _ _ hr7
          have z0 : w7.cell? ⟨w.heap.size, 0, none⟩ = some (.int .u64 0) := cell_of_row w7 _ 0 _ _ _ hz7
          have z1 : w7.cell? ⟨w.heap.size, 1, none⟩ = some (.int .u64 0) := cell_of_row w7 _ 1 _ _ _ hz7
          have z2 : w7.cell? ⟨w.heap.size, 2, none⟩ = some (.bool false) := cell_of_row w7 _ 2 _ _ _ hz7
          have z3 : w7.cell? ⟨w.heap.size, 3, none⟩ = some (.string ⟨#[]⟩) := cell_of_row w7 _ 3 _ _ _ hz7
          have f0 : w7.frozen? ⟨w.heap.size, 0, none⟩ = false := frozen_of_row w7 _ 0 _ _ hz7
          have f1 : w7.frozen? ⟨w.heap.size, 1, none⟩ = false := frozen_of_row w7 _ 1 _ _ hz7
          have f2 : w7.frozen? ⟨w.heap.size, 2, none⟩ = false := frozen_of_row w7 _ 2 _ _ hz7
          have f3 : w7.frozen? ⟨w.heap.size, 3, none⟩ = false := frozen_of_row w7 _ 3 _ _ hz7
          rw [decide_eq_true hok]
          clear hr7 hz7 hl7 hown7
          have d1 := decide_eq_true heq
          go_wp2_with (go_at_call 35; refine (equal_calls _ _ _ _ _ HO7.out HI7.out).mono ?_; rintro e w8 ⟨rfl, n8, rfl⟩; rw [d1])
          (try simp only [Exit.inBlock, Exit.then])
          refine bodyPost_ret (v := decV (some (s1, n1, g1, T))) (by rw [results_cell_tmp rfl]; go_simp; rfl) rfl ⟨by rw [HDQ.out], ?_⟩
          exact ((((below_drewN HB7.out n8).setCell (p := ⟨w.heap.size, 0, none⟩) (Nat.le_refl _) _).setCell (p := ⟨w.heap.size, 1, none⟩) (Nat.le_refl _) _).setCell (p := ⟨w.heap.size, 2, none⟩) (Nat.le_refl _) _).setCell (p := ⟨w.heap.size, 3, none⟩) (Nat.le_refl _) _
        · have hdp := HDP.out
          rw [if_neg heq] at hdp
          have HDQ := Lib.hid hdp
          clear hdp
          have k0 : w7.cell? ⟨wr.heap.size, 0, none⟩ = some (.int .u64 s1) := cell_of_row w7 _ 0 _ _ _ hr7
          have k1 : w7.cell? ⟨wr.heap.size, 1, none⟩ = some (.int .u64 n1) := cell_of_row w7 _ 1 _ _ _ hr7
          have k2 : w7.cell? ⟨wr.heap.size, 2, none⟩ = some (.bool g1) := cell_of_row w7 _ 2 _ _ _ hr7
          have k3 : w7.cell? ⟨wr.heap.size, 3, none⟩ = some (.string T) := cell_of_row w7 _ 3 _ _ _ hr7
          have z0 : w7.cell? ⟨w.heap.size, 0, none⟩ = some (.int .u64 0) := cell_of_row w7 _ 0 _ _ _ hz7
          have z1 : w7.cell? ⟨w.heap.size, 1, none⟩ = some (.int .u64 0) := cell_of_row w7 _ 1 _ _ _ hz7
          have z2 : w7.cell? ⟨w.heap.size, 2, none⟩ = some (.bool false) := cell_of_row w7 _ 2 _ _ _ hz7
          have z3 : w7.cell? ⟨w.heap.size, 3, none⟩ = some (.string ⟨#[]⟩) := cell_of_row w7 _ 3 _ _ _ hz7
          have f0 : w7.frozen? ⟨w.heap.size, 0, none⟩ = false := frozen_of_row w7 _ 0 _ _ hz7
          have f1 : w7.frozen? ⟨w.heap.size, 1, none⟩ = false := frozen_of_row w7 _ 1 _ _ hz7
          have f2 : w7.frozen? ⟨w.heap.size, 2, none⟩ = false := frozen_of_row w7 _ 2 _ _ hz7
          have f3 : w7.frozen? ⟨w.heap.size, 3, none⟩ = false := frozen_of_row w7 _ 3 _ _ hz7
          rw [decide_eq_true hok]
          clear hr7 hz7 hl7 hown7
          have d1 := decide_eq_false heq
          go_wp2_with (go_at_call 35; refine (equal_calls _ _ _ _ _ HO7.out HI7.out).mono ?_; rintro e w8 ⟨rfl, n8, rfl⟩; rw [d1])
          (try simp only [Exit.inBlock, Exit.then])
          refine bodyPost_ret (v := decV none) (by rw [results_cell_tmp rfl]; go_simp; rfl) rfl ⟨by rw [HDQ.out], ?_⟩
          exact ((((below_drewN HB7.out n8).setCell (p := ⟨w.heap.size, 0, none⟩) (Nat.le_refl _) _).setCell (p := ⟨w.heap.size, 1, none⟩) (Nat.le_refl _) _).setCell (p := ⟨w.heap.size, 2, none⟩) (Nat.le_refl _) _).setCell (p := ⟨w.heap.size, 3, none⟩) (Nat.le_refl _) _
      · have hneq : encL s1 n1 g1 T ≠ l := fun h => by
          have h2 : encL s1 n1 g1 T = [] := by unfold encL; rw [if_neg hok]
          rw [h2] at h
          have := HE8.out
          rw [← h] at this
          simp at this
        have hdp := HDP.out
        rw [if_neg hneq] at hdp
        have HDQ := Lib.hid hdp
        clear hdp hneq
        have k0 : w7.cell? ⟨wr.heap.size, 0, none⟩ = some (.int .u64 s1) := cell_of_row w7 _ 0 _ _ _ hr7
        have k1 : w7.cell? ⟨wr.heap.size, 1, none⟩ = some (.int .u64 n1) := cell_of_row w7 _ 1 _ _ _ hr7
        have k2 : w7.cell? ⟨wr.heap.size, 2, none⟩ = some (.bool g1) := cell_of_row w7 _ 2 _ _ _ hr7
        have k3 : w7.cell? ⟨wr.heap.size, 3, none⟩ = some (.string T) := cell_of_row w7 _ 3 _ _ _ hr7
        have z0 : w7.cell? ⟨w.heap.size, 0, none⟩ = some (.int .u64 0) := cell_of_row w7 _ 0 _ _ _ hz7
        have z1 : w7.cell? ⟨w.heap.size, 1, none⟩ = some (.int .u64 0) := cell_of_row w7 _ 1 _ _ _ hz7
        have z2 : w7.cell? ⟨w.heap.size, 2, none⟩ = some (.bool false) := cell_of_row w7 _ 2 _ _ _ hz7
        have z3 : w7.cell? ⟨w.heap.size, 3, none⟩ = some (.string ⟨#[]⟩) := cell_of_row w7 _ 3 _ _ _ hz7
        have f0 : w7.frozen? ⟨w.heap.size, 0, none⟩ = false := frozen_of_row w7 _ 0 _ _ hz7
        have f1 : w7.frozen? ⟨w.heap.size, 1, none⟩ = false := frozen_of_row w7 _ 1 _ _ hz7
        have f2 : w7.frozen? ⟨w.heap.size, 2, none⟩ = false := frozen_of_row w7 _ 2 _ _ hz7
        have f3 : w7.frozen? ⟨w.heap.size, 3, none⟩ = false := frozen_of_row w7 _ 3 _ _ hz7
        rw [decide_eq_false hok]
        clear hr7 hz7 hl7 hown7
        go_wp2
        (try simp only [Exit.inBlock, Exit.then])
        refine bodyPost_ret (v := decV none) (by rw [results_cell_tmp rfl]; go_simp; rfl) rfl ⟨by rw [HDQ.out], ?_⟩
        exact ((((HB7.out).setCell (p := ⟨w.heap.size, 0, none⟩) (Nat.le_refl _) _).setCell (p := ⟨w.heap.size, 1, none⟩) (Nat.le_refl _) _).setCell (p := ⟨w.heap.size, 2, none⟩) (Nat.le_refl _) _).setCell (p := ⟨w.heap.size, 3, none⟩) (Nat.le_refl _) _
theorem dec_calls (v : Value) (l : List Int) (w : World) (hI : Ints .u64 w v l) :
    Calls Try.prog 17 #[v] w fun e w' => e = .returned (decV (decP l)) ∧ Below w.heap.size w w' := by
  by_cases h : decOk l
  · exact dec_in v l w hI h
  · have e : decP l = none := by unfold decP; simp [h]
    rw [e]
    exact dec_out v l w hI h
end Go.Proofs.Ytflobafmmfigoaa
