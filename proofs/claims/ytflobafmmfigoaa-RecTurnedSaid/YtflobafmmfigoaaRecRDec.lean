/- REC: the document's Decode. -/
import Derived.Test.YtflobafmmfigoaaRecDec
import Derived.Laws.Concat
namespace Go.Proofs.Ytflobafmmfigoaa
open Go Go.RowKit
set_option linter.unusedSimpArgs false

set_option maxHeartbeats 800000 in
theorem rdec_out (v : Value) (l : List Int) (w : World) (hI : Ints .u64 w v l) (h : ¬ decOk l) :
    Calls Try.prog 18 #[v] w fun e w' => e = .returned (decV none) ∧ Below w.heap.size w w' := by
  obtain ⟨a, cap, rfl⟩ := hI.slice
  have HB : Hid (∀ o, Below w.heap.size w (w.alloc o)) := Lib.hid (fun o => (Below.refl w.heap.size w).alloc (Nat.le_refl _) o)
  by_cases h8 : l.length = 8
  · have t1 : ((l.length : Int) != 8) = false := by simp [h8]
    have hgt : 40 < l.getD 0 0 / 65536 := by
      rcases Int.lt_or_le 40 (l.getD 0 0 / 65536) with h' | h'
      · exact h'
      · exact absurd ⟨h8, h'⟩ h
    obtain ⟨b, off, rfl, hcs⟩ := hI.cells (by omega)
    have hc0 := hcs 0 (by omega)
    have hlt := World.block_lt_of_cell? w _ hc0
    have hd0 : ∀ o, (w.alloc o).cell? ⟨b, off, none⟩ = some (.int .u64 (l.getD 0 0)) := fun o => (World.cell?_alloc_lt _ _ _ hlt).trans hc0
    have hW : W64 (l.getD 0 0) := by
      have : l.getD 0 0 = l[0]'(by omega) := by simp [show 0 < l.length from by omega]
      rw [this]; exact bd_u64 (hI.1 _ (List.getElem_mem _))
    have hq : IntKind.u64.wrap ((l.getD 0 0).tdiv 65536) = l.getD 0 0 / 65536 := by
      unfold W64 at hW
      rw [Int.tdiv_eq_ediv_of_nonneg hW.1, IntKind.wrap_u64]; omega
    rw [h8] at *
    clear h hcs hc0 hI
    generalize l.getD 0 0 = x at *
    go_enter Try.func18, Try.ntmps18
    go_wp2
    (try simp only [Exit.inBlock, Exit.then])
    refine bodyPost_ret (v := decV none) (by rw [results_cell_tmp rfl]; go_simp; rfl) rfl ⟨rfl, ?_⟩
    exact HB.out _
  · have t1 : ((l.length : Int) != 8) = true := by simp; omega
    go_enter Try.func18, Try.ntmps18
    go_wp2
    (try simp only [Exit.inBlock, Exit.then])
    refine bodyPost_ret (v := decV none) (by rw [results_cell_tmp rfl]; go_simp; rfl) rfl ⟨rfl, ?_⟩
    exact HB.out _
theorem strOf_snoc (m : List Int) (x : Int) : strOfNums (m ++ [x]) = strOfNums m ++ strOfNums [x] := (strOf_append m [x]).symm
set_option maxHeartbeats 1600000 in
theorem rdec_in (v : Value) (l : List Int) (w : World) (hI : Ints .u64 w v l) (h : decOk l) :
    Calls Try.prog 18 #[v] w fun e w' => e = .returned (decV (decR l)) ∧ Below w.heap.size w w' := by
  obtain ⟨a, cap, rfl⟩ := hI.slice
  have HB : Hid (∀ o, Below w.heap.size w (w.alloc o)) := Lib.hid (fun o => (Below.refl w.heap.size w).alloc (Nat.le_refl _) o)
  have h8 := h.1
  have t1 : (((8 : Nat) : Int) != 8) = false := by simp
  have hcap := hI.cap_le
  obtain ⟨b, off, rfl, hcs⟩ := hI.cells (by omega)
  have hW : ∀ j, j < 8 → W64 (l.getD j 0) := fun j hj => by
    have : l.getD j 0 = l[j]'(by omega) := by simp [show j < l.length from by omega]
    rw [this]; exact bd_u64 (hI.1 _ (List.getElem_mem _))
  have HW := Lib.hid hW
  have hx0 := hW 0 (by omega)
  have hc0 := hcs 0 (by omega)
  have hlt := World.block_lt_of_cell? w _ hc0
  have hd0 : ∀ o, (w.alloc o).cell? ⟨b, off, none⟩ = some (.int .u64 (l.getD 0 0)) := fun o => (World.cell?_alloc_lt _ _ _ hlt).trans hc0
  obtain ⟨z, hz⟩ := Int.eq_ofNat_of_zero_le (show 0 ≤ l.getD 0 0 / 65536 by have := hx0.1; omega)
  have hz40 : z ≤ 40 := by have := h.2; omega
  have hgt : decide ((40 : Int) < (z : Int)) = false := by simp; omega
  have HTX : Hid (textOf l = strOfNums ((List.range z).map (byteAt l))) := Lib.hid (by unfold textOf; rw [hz]; rfl)
  have HI := Lib.hid hI
  have HD := Lib.hid h
  rw [h8] at hI HI ⊢
  have hzz : l.getD 0 0 / 65536 = (z : Int) := hz
  have hzt : (l.getD 0 0).tdiv 65536 = (z : Int) := by rw [Int.tdiv_eq_ediv_of_nonneg hx0.1]; exact hz
  have HX0 := Lib.hid hx0
  have HCP : Hid (candR l = (l.getD 1 0, l.getD 2 0, l.getD 0 0 / 256 % 256 == 1, strOfNums ((List.range z).map (byteAt l)))) := Lib.hid (by unfold candR; rw [HTX.out])
  have HDP : Hid (decR l = if encT (candR l) = l then some (candR l) else none) := Lib.hid (by unfold decR; simp [HD.out])
  rw [HCP.out] at HDP
  unfold encT at HDP
  simp only at HDP
  have HRD : Hid (∀ W, Ints .u64 W (.slice (some ⟨b, off, none⟩) 8 cap) l → ∀ j, j < 8 → W.cell? ⟨b, off + j, none⟩ = some (.int .u64 (l.getD j 0))) := Lib.hid (fun W hW j hj => by
    obtain ⟨_, _, hb', _, hcs⟩ := hW.row j (by have := HD.out.1; omega)
    simp only [Option.some.injEq, Addr.mk.injEq, and_true] at hb'
    obtain ⟨rfl, rfl⟩ := hb'
    exact hcs)
  clear hcs hc0 hI hz h8 hx0 h hW HCP HTX
  go_enter Try.func18, Try.ntmps18
  generalize hxx : l.getD 0 0 = x at *
  have HX := Lib.hid hxx
  clear hxx
  have HBW0 := Lib.hid (HB.out (.cells #[.int .u64 0, .int .u64 0, .bool false, .string ⟨#[]⟩] 24))
  have hsz0 : w.heap.size < (w.alloc (.cells #[.int .u64 0, .int .u64 0, .bool false, .string ⟨#[]⟩] 24)).heap.size := by simp
  have HR0 : Hid ((w.alloc (.cells #[.int .u64 0, .int .u64 0, .bool false, .string ⟨#[]⟩] 24)).heap[w.heap.size]? = some (.cells #[.int .u64 0, .int .u64 0, .bool false, .string ⟨#[]⟩] 24 (0, 0))) := Lib.hid (heap_alloc_new w _)
  have HI0 := Lib.hid (HI.out.below ((Below.refl w.heap.size w).alloc (Nat.le_refl _) (.cells #[.int .u64 0, .int .u64 0, .bool false, .string ⟨#[]⟩] 24)))
  go_wp2
  clear hd0
  generalize (w.alloc (.cells #[.int .u64 0, .int .u64 0, .bool false, .string ⟨#[]⟩] 24)) = W0 at *
  have HW1 := Lib.hid (HW.out 1 (by omega))
  have HW2 := Lib.hid (HW.out 2 (by omega))
  have HRD' : Hid (∀ W, Ints .u64 W (.slice (some ⟨b, off, none⟩) 8 cap) l → W.cell? ⟨b, off, none⟩ = some (.int .u64 x) ∧ W.cell? ⟨b, off + 1, none⟩ = some (.int .u64 (l.getD 1 0)) ∧ W.cell? ⟨b, off + 2, none⟩ = some (.int .u64 (l.getD 2 0))) := Lib.hid (fun W hW => by
    refine ⟨?_, HRD.out W hW 1 (by omega), HRD.out W hW 2 (by omega)⟩
    rw [← HX.out]; exact HRD.out W hW 0 (by omega))
  generalize l.getD 1 0 = s1 at *
  generalize l.getD 2 0 = n1 at *
  have hx0 := HX0.out.1
  have q1 : x.tdiv 256 = x / 256 := Int.tdiv_eq_ediv_of_nonneg hx0
  have q3 : IntKind.u64.wrap (x / 256) = x / 256 := by have h := HX0.out; unfold W64 at h; rw [IntKind.wrap_u64]; omega
  have q2 : (x / 256).tmod 256 = x / 256 % 256 := Int.tmod_eq_emod_of_nonneg (by omega)
  generalize hg1 : (x / 256 % 256 == 1) = g1 at *
  refine wp_region_held_drew (S := (fun W : World => Ints .u64 W (.slice (some ⟨b, off, none⟩) 8 cap) l)) (by kernel_rfl) ?_ (fun hHeld => ?_)
  · (exact HI0.out.drew)
  try (change wpAnyH _ _ _ _ _ _ _ _ (World.drew _))
  refine wpAnyH_take (i := 0) (v := ?_) rfl (by kernel_rfl) (by kernel_rfl) (by kernel_rfl) (fun _ _ _ h => h) (Or.inl ⟨by rfl, ?_⟩) (by assumption) ?_
  rotate_left
  · intro w hSw
    go_simp
    try (with_reducible rfl)
  (simp only [Act.put, List.getElem_toArray, List.getElem_cons_succ, List.getElem_cons_zero, List.setIfInBounds_toArray, List.set_cons_zero, List.set_cons_succ])
  refine wpAnyH_take (i := 1) (v := ?_) rfl (by kernel_rfl) (by kernel_rfl) (by kernel_rfl) (fun _ _ _ h => h) (Or.inl ⟨by rfl, ?_⟩) (by assumption) ?_
  rotate_left
  · intro w hSw
    go_simp
    try (with_reducible rfl)
  (simp only [Act.put, List.getElem_toArray, List.getElem_cons_succ, List.getElem_cons_zero, List.setIfInBounds_toArray, List.set_cons_zero, List.set_cons_succ])
  refine wpAnyH_take (i := 2) (v := ?_) rfl (by kernel_rfl) (by kernel_rfl) (by kernel_rfl) (fun _ _ _ h => h) (Or.inl ⟨by rfl, ?_⟩) (by assumption) ?_
  rotate_left
  · intro w hSw
    (have ⟨r0, r1, r2⟩ := HRD'.out _ hSw)
    go_simp
    try (with_reducible rfl)
  (simp only [Act.put, List.getElem_toArray, List.getElem_cons_succ, List.getElem_cons_zero, List.setIfInBounds_toArray, List.set_cons_zero, List.set_cons_succ])
  refine wpAnyH_take (i := 3) (v := ?_) rfl (by kernel_rfl) (by kernel_rfl) (by kernel_rfl) (fun _ _ _ h => h) (Or.inl ⟨by rfl, ?_⟩) (by assumption) ?_
  rotate_left
  · intro w hSw
    go_simp
    try (with_reducible rfl)
  (simp only [Act.put, List.getElem_toArray, List.getElem_cons_succ, List.getElem_cons_zero, List.setIfInBounds_toArray, List.set_cons_zero, List.set_cons_succ])
  refine wpAnyH_take (i := 4) (v := ?_) rfl (by kernel_rfl) (by kernel_rfl) (by kernel_rfl) (fun _ _ _ h => h) (Or.inl ⟨by rfl, ?_⟩) (by assumption) ?_
  rotate_left
  · intro w hSw
    go_simp
    try (with_reducible rfl)
  (simp only [Act.put, List.getElem_toArray, List.getElem_cons_succ, List.getElem_cons_zero, List.setIfInBounds_toArray, List.set_cons_zero, List.set_cons_succ])
  refine wpAnyH_take (i := 5) (v := ?_) rfl (by kernel_rfl) (by kernel_rfl) (by kernel_rfl) (fun _ _ _ h => h) (Or.inl ⟨by rfl, ?_⟩) (by assumption) ?_
  rotate_left
  · intro w hSw
    (have ⟨r0, r1, r2⟩ := HRD'.out _ hSw)
    go_simp
    try (with_reducible rfl)
  (simp only [Act.put, List.getElem_toArray, List.getElem_cons_succ, List.getElem_cons_zero, List.setIfInBounds_toArray, List.set_cons_zero, List.set_cons_succ])
  refine wpAnyH_take (i := 6) (v := ?_) rfl (by kernel_rfl) (by kernel_rfl) (by kernel_rfl) (fun _ _ _ h => h) (Or.inl ⟨by rfl, ?_⟩) (by assumption) ?_
  rotate_left
  · intro w hSw
    go_simp
    try (with_reducible rfl)
  (simp only [Act.put, List.getElem_toArray, List.getElem_cons_succ, List.getElem_cons_zero, List.setIfInBounds_toArray, List.set_cons_zero, List.set_cons_succ])
  refine wpAnyH_take (i := 7) (v := ?_) rfl (by kernel_rfl) (by kernel_rfl) (by kernel_rfl) (fun _ _ _ h => h) (Or.inl ⟨by rfl, ?_⟩) (by assumption) ?_
  rotate_left
  · intro w hSw
    go_simp
    try (with_reducible rfl)
  (simp only [Act.put, List.getElem_toArray, List.getElem_cons_succ, List.getElem_cons_zero, List.setIfInBounds_toArray, List.set_cons_zero, List.set_cons_succ])
  refine wpAnyH_take (i := 8) (v := ?_) rfl (by kernel_rfl) (by kernel_rfl) (by kernel_rfl) (fun _ _ _ h => h) (Or.inl ⟨by rfl, ?_⟩) (by assumption) ?_
  rotate_left
  · intro w hSw
    (have ⟨r0, r1, r2⟩ := HRD'.out _ hSw)
    go_simp
    try (with_reducible rfl)
  (simp only [Act.put, List.getElem_toArray, List.getElem_cons_succ, List.getElem_cons_zero, List.setIfInBounds_toArray, List.set_cons_zero, List.set_cons_succ])
  refine wpAnyH_take (i := 9) (v := ?_) rfl (by kernel_rfl) (by kernel_rfl) (by kernel_rfl) (fun _ _ _ h => h) (Or.inl ⟨by rfl, ?_⟩) (by assumption) ?_
  rotate_left
  · intro w hSw
    go_simp
    try (with_reducible rfl)
  (simp only [Act.put, List.getElem_toArray, List.getElem_cons_succ, List.getElem_cons_zero, List.setIfInBounds_toArray, List.set_cons_zero, List.set_cons_succ])
  refine wpAnyH_take (i := 10) (v := ?_) rfl (by kernel_rfl) (by kernel_rfl) (by kernel_rfl) (fun _ _ _ h => h) (Or.inl ⟨by rfl, ?_⟩) (by assumption) ?_
  rotate_left
  · intro w hSw
    go_simp
    try (with_reducible rfl)
  (simp only [Act.put, List.getElem_toArray, List.getElem_cons_succ, List.getElem_cons_zero, List.setIfInBounds_toArray, List.set_cons_zero, List.set_cons_succ])
  refine wpAnyH_take (i := 11) (v := ?_) rfl (by kernel_rfl) (by kernel_rfl) (by kernel_rfl) (fun _ _ _ h => h) (Or.inl ⟨by rfl, ?_⟩) (by assumption) ?_
  rotate_left
  · intro w hSw
    go_simp
    try (with_reducible rfl)
  (simp only [Act.put, List.getElem_toArray, List.getElem_cons_succ, List.getElem_cons_zero, List.setIfInBounds_toArray, List.set_cons_zero, List.set_cons_succ])
  refine wpAnyH_take (i := 12) (v := ?_) rfl (by kernel_rfl) (by kernel_rfl) (by kernel_rfl) (fun _ _ _ h => h) (Or.inl ⟨by rfl, ?_⟩) (by assumption) ?_
  rotate_left
  · intro w hSw
    go_simp
    try (with_reducible rfl)
  (simp only [Act.put, List.getElem_toArray, List.getElem_cons_succ, List.getElem_cons_zero, List.setIfInBounds_toArray, List.set_cons_zero, List.set_cons_succ])
  refine wpAnyH_ready (rs := [13]) (by kernel_rfl) (by simp) ?_
  refine AllReadyH.cons rfl (fun K hK => ?_) AllReadyH.nil
  go_simp
  (skip)
  refine hK.out _ _ ?_ ?_
  · (exact HI0.out.drew.below ((Below.refl _ _).alloc (Nat.le_refl _) _))
  intro hHeld
  clear hK K
  refine wpAnyH_ready (rs := [14]) (by kernel_rfl) (by simp) ?_
  refine AllReadyH.cons rfl (fun K hK => ?_) AllReadyH.nil
  go_simp
  (skip)
  refine hK.out _ _ ?_ ?_
  · (exact (HI0.out.below ((Below.refl _ _).alloc (Nat.le_refl _) _)).drew)
  intro hHeld
  clear hK K
  refine wpAnyH_done (by kernel_rfl) ?_ _
  have HB1 := Lib.hid (((Below.refl W0.heap.size W0).alloc (Nat.le_refl _) (.cells #[.int .u64 s1, .int .u64 n1, .bool g1, .string ⟨#[]⟩] 24)).drew)
  have HR1 : Hid ((W0.alloc (.cells #[.int .u64 s1, .int .u64 n1, .bool g1, .string ⟨#[]⟩] 24)).drew.heap[W0.heap.size]? = some (.cells #[.int .u64 s1, .int .u64 n1, .bool g1, .string ⟨#[]⟩] 24 (0, 0))) := Lib.hid (heap_alloc_new W0 _)
  clear hHeld q1 q2 q3 hg1 hx0 hzz hzt hgt t1
  generalize (W0.alloc (.cells #[.int .u64 s1, .int .u64 n1, .bool g1, .string ⟨#[]⟩] 24)).drew = W1 at *
  go_wp2
  go_loopw [6] (fun i wr => ∃ k : Nat, k ≤ z ∧ i = .int .i64 k ∧ wr.heap[W0.heap.size]? = some (.cells #[.int .u64 s1, .int .u64 n1, .bool g1, .string (strOfNums ((List.range k).map (byteAt l)))] 24 (0, 0)) ∧ Below W0.heap.size W0 wr) (fun i _ => z - (intOf i).toNat)
  case atStart => exact ⟨0, Nat.zero_le _, rfl, HR1.out, HB1.out⟩
  case round =>
    obtain ⟨k, hk, rfl, hrr, hbw⟩ := hrel
    have HLL : Hid (((List.range k).map (byteAt l)).length = k) := Lib.hid (by simp)
    have HSS : Hid (strOfNums ((List.range (k + 1)).map (byteAt l)) = strOfNums ((List.range k).map (byteAt l)) ++ strOfNums [byteAt l k]) := Lib.hid (by rw [List.range_succ, List.map_append, ← strOf_snoc]; rfl)
    have HIR := Lib.hid (HI0.out.below hbw)
    have HBR := Lib.hid hbw
    have HRR := Lib.hid hrr
    clear hbw hrr
    by_cases hltz : k < z
    · have hrow := HRD.out _ HIR.out (3 + k / 8) (by omega)
      have hyw := HW.out (3 + k / 8) (by omega)
      have hbe : l.getD (3 + k / 8) 0 / 256 ^ (k % 8) % 256 = byteAt l k := rfl
      have hbb := byteAt_bd l k
      have HBB := Lib.hid hbb
      have HYW := Lib.hid hyw
      have HBE := Lib.hid hbe
      clear hbb hyw hbe
      generalize l.getD (3 + k / 8) 0 = y at *
      generalize byteAt l k = x1 at *
      have hS : (strOfNums ((List.range k).map (byteAt l))).size ≤ 41 := by rw [strOfNums_size, HLL.out]; omega
      generalize strOfNums ((List.range k).map (byteAt l)) = S at *
      go_wp2
      go_loopw [7, 8] (fun v j wr' => ∃ m : Nat, m ≤ k % 8 ∧ j = .int .i64 m ∧ v = .int .u64 (y / 256 ^ m) ∧ wr = wr') (fun _ j _ => k % 8 - (intOf j).toNat)
      case atStart => exact ⟨0, Nat.zero_le _, rfl, by simp, rfl⟩
      case round =>
        obtain ⟨m, hm, rfl, rfl, rfl⟩ := hrel
        by_cases hlm : m < k % 8
        · have hyb := HYW.out
          have hpw : (0 : Int) < 256 ^ m := Int.pow_pos (by omega)
          have hu0 : 0 ≤ y / 256 ^ m := Int.ediv_nonneg hyb.1 (Int.le_of_lt hpw)
          have hu1 : y / 256 ^ m ≤ y := Int.ediv_le_self _ hyb.1
          have hsucc : y / 256 ^ (m + 1) = y / 256 ^ m / 256 := by rw [Int.pow_succ, Int.ediv_ediv_of_nonneg (Int.le_of_lt hpw)]
          have HSU := Lib.hid hsucc
          have q1 : IntKind.u64.wrap ((y / 256 ^ m).tdiv 256) = y / 256 ^ m / 256 := by
            unfold W64 at hyb
            rw [Int.tdiv_eq_ediv_of_nonneg hu0, IntKind.wrap_u64]; omega
          have t3 : decide ((m : Int) < (k : Int) % 8) = true := by simp; omega
          clear hyb hpw hu0 hu1 hsucc
          generalize y / 256 ^ m = u at *
          go_wp2
          go_roundw
          case rel => exact ⟨m + 1, by omega, by go_num, by rw [HSU.out], trivial⟩
          case measure => simp [intOf]; omega
        · obtain rfl : m = k % 8 := by omega
          have hyb := HYW.out
          have hpw : (0 : Int) < 256 ^ (k % 8) := Int.pow_pos (by omega)
          have hu0 : 0 ≤ y / 256 ^ (k % 8) := Int.ediv_nonneg hyb.1 (Int.le_of_lt hpw)
          have q1 : (y / 256 ^ (k % 8)).tmod 256 = x1 := by rw [Int.tmod_eq_emod_of_nonneg hu0]; exact HBE.out
          have t3 : decide (((k % 8 : Nat) : Int) < (k : Int) % 8) = false := by simp
          have HL := Lib.hid (show W0.heap.size < wr.heap.size from by
            rcases Nat.lt_or_ge W0.heap.size wr.heap.size with h | h
            · exact h
            · have := HRR.out; rw [Array.getElem?_eq_none h] at this; simp at this)
          have c3 : wr.cell? ⟨W0.heap.size, 3, none⟩ = some (.string S) := cell_of_row wr _ 3 _ _ _ HRR.out
          have ca : ∀ o, (wr.alloc o).cell? ⟨W0.heap.size, 3, none⟩ = some (.string S) := fun o => (World.cell?_alloc_lt _ _ _ HL.out).trans c3
          have ha : ∀ o, (wr.alloc o).heap[W0.heap.size]? = some (.cells #[.int .u64 s1, .int .u64 n1, .bool g1, .string S] 24 (0, 0)) := fun o => (heap_alloc_old wr o HL.out).trans HRR.out
          have fa : ∀ o, (wr.alloc o).frozen? ⟨W0.heap.size, 3, none⟩ = false := fun o => frozen_of_row _ _ 3 _ _ (ha o)
          have HA := Lib.hid ha
          have x0 := HBB.out
          have hw8 : IntKind.u8.wrap x1 = x1 := by simp [IntKind.wrap, IntKind.bits, IntKind.signed]; omega
          have hcv : (convert 43 9 (.slice (some ⟨wr.heap.size, 0, none⟩) 1 1)).run Try.prog (wr.alloc (.cells #[.int .u8 x1] 5)) = .ok (.string (strOfNums [x1])) (wr.alloc (.cells #[.int .u8 x1] 5)) := Ints.conv' (Ints.ofRow (l := [x1]) (cap := 1) (heap_alloc_new wr (.cells #[.int .u8 x1] 5)) (by intro q hq; rw [List.mem_singleton] at hq; subst hq; exact wf_u8 HBB.out) (by simp) (by simp) (by intro j hj; simp at hj; subst hj; rfl))
          have hadd : ∀ W : World, (Op.stringOp .add S (strOfNums [x1])).run Try.prog W = .ok (.string (S ++ strOfNums [x1])) W := fun W => run_string_add_sum W _ _ (by rw [strOfNums_size]; simp; omega)
          clear hyb hpw hu0 ha x0
          generalize y / 256 ^ (k % 8) = u at *
          generalize S ++ strOfNums [x1] = S2 at *
          generalize strOfNums [x1] = S1 at *
          go_wp2
          go_roundw
          case rel => exact ⟨k + 1, hltz, by go_num, by rw [HSS.out]; exact heap_setCell_same _ _ 3 _ _ _ (HA.out _), (HBR.out.alloc HBR.out.size _).setCell (p := ⟨W0.heap.size, 3, none⟩) (Nat.le_refl _) _⟩
          case measure => simp [intOf]; omega
    · obtain rfl : k = z := by omega
      clear HSS HLL
      generalize strOfNums ((List.range k).map (byteAt l)) = T at *
      have j0 : wr.cell? ⟨W0.heap.size, 0, none⟩ = some (.int .u64 s1) := cell_of_row wr _ 0 _ _ _ HRR.out
      have j1 : wr.cell? ⟨W0.heap.size, 1, none⟩ = some (.int .u64 n1) := cell_of_row wr _ 1 _ _ _ HRR.out
      have j2 : wr.cell? ⟨W0.heap.size, 2, none⟩ = some (.bool g1) := cell_of_row wr _ 2 _ _ _ HRR.out
      have j3 : wr.cell? ⟨W0.heap.size, 3, none⟩ = some (.string T) := cell_of_row wr _ 3 _ _ _ HRR.out
      go_wp2_with fail
      refine (renc_calls s1 n1 g1 T _ HW1.out HW2.out).mono ?_
      rintro e w9 ⟨v9, rfl, hown9, hb9⟩
      clear j0 j1 j2 j3
      have HR9 : Hid (w9.heap[W0.heap.size]? = some (.cells #[.int .u64 s1, .int .u64 n1, .bool g1, .string T] 24 (0, 0))) := Lib.hid ((hb9.block _ (by
        rcases Nat.lt_or_ge W0.heap.size wr.heap.size with h | h
        · exact h
        · have := HRR.out; rw [Array.getElem?_eq_none h] at this; simp at this)).trans HRR.out)
      have HZ9 : Hid (w9.heap[w.heap.size]? = some (.cells #[.int .u64 0, .int .u64 0, .bool false, .string ⟨#[]⟩] 24 (0, 0))) := Lib.hid ((hb9.block _ (Nat.lt_of_lt_of_le hsz0 HBR.out.size)).trans ((HBR.out.block _ hsz0).trans HR0.out))
      have hl9 : (encL s1 n1 g1 T).length ≤ 140737488351232 := by unfold encL; split <;> simp [wl]
      have HI9 := Lib.hid (HIR.out.below hb9)
      have HB9 := Lib.hid (HBW0.out.trans ((HBR.out.mono (Nat.le_of_lt hsz0)).trans (hb9.mono (Nat.le_of_lt (Nat.lt_of_lt_of_le hsz0 HBR.out.size)))))
      have HO9 := Lib.hid (hown9.ints hl9)
      have HE8 := Lib.hid HD.out.1
      clear hown9 hb9 hl9
      by_cases hok : recOk s1 g1 T
      · have h8e : (encL s1 n1 g1 T).length = 8 := by unfold encL; rw [if_pos hok]; rfl
        have HDR := Lib.hid HDP.out
        rw [decide_eq_true hok]
        have HOK := Lib.hid hok
        clear hok
        generalize encL s1 n1 g1 T = E at *
        obtain ⟨bE, oE, cE, rfl⟩ : ∃ bE oE cE, v9 = .slice (some ⟨bE, oE, none⟩) 8 cE := by
          obtain ⟨A, c, rfl⟩ := HO9.out.slice
          obtain ⟨bE, oE, rfl, _⟩ := HO9.out.cells (by omega)
          exact ⟨bE, oE, c, by rw [h8e]⟩
        have HER : Hid (∀ j, j < 8 → w9.cell? ⟨bE, oE + j, none⟩ = some (.int .u64 (E.getD j 0))) := Lib.hid (fun j hj => by
          obtain ⟨_, _, hb', _, hcs⟩ := HO9.out.row j (by omega)
          simp only [Option.some.injEq, Addr.mk.injEq, and_true] at hb'
          obtain ⟨rfl, rfl⟩ := hb'
          exact hcs)
        have HLR := Lib.hid (HRD.out _ HI9.out)
        have H8E := Lib.hid h8e
        have hcE := HO9.out.cap_le
        rw [h8e] at hcE
        clear h8e
        go_wp2
        go_loopw [11] (fun i wr => ∃ k n : Nat, k ≤ 8 ∧ i = .int .i64 k ∧ (∀ j, j < k → E.getD j 0 = l.getD j 0) ∧ wr = w9.drewN n) (fun i _ => 8 - (intOf i).toNat)
        case atStart => exact ⟨0, 0, Nat.zero_le _, rfl, fun j hj => absurd hj (by omega), rfl⟩
        case round =>
          obtain ⟨i, n, hi, rfl, hc, rfl⟩ := hrel
          have HC := Lib.hid hc
          clear hc
          by_cases hlt8 : i < 8
          · have hx := HER.out i hlt8
            have hy := HLR.out i hlt8
            have kx : (i : Int) < 8 := by omega
            by_cases e : E.getD i 0 = l.getD i 0
            · have HC' : Hid (∀ j, j < i + 1 → E.getD j 0 = l.getD j 0) := Lib.hid (fun j hj => by
                rcases Nat.lt_or_ge j i with h | h
                · exact HC.out j h
                · have : j = i := by omega
                  subst this; exact e)
              rw [← e] at hy
              clear e
              generalize E.getD i 0 = p at hx hy
              have e1 : (p != p) = false := by simp
              go_wp2
              go_region
              all_goals
                go_wp2
                go_roundw
                case rel => exact ⟨i + 1, n + 1, by omega, by go_num, HC'.out, rfl⟩
                case measure => simp [intOf]; omega
            · have HDQ : Hid (decR l = none) := Lib.hid (by rw [HDR.out, if_neg (fun h => e (by rw [h]))])
              have e1 : (E.getD i 0 != l.getD i 0) = true := by simpa using e
              clear e
              generalize E.getD i 0 = p at *
              generalize l.getD i 0 = q at *
              have k0 : w9.cell? ⟨W0.heap.size, 0, none⟩ = some (.int .u64 s1) := cell_of_row w9 _ 0 _ _ _ HR9.out
              have k1 : w9.cell? ⟨W0.heap.size, 1, none⟩ = some (.int .u64 n1) := cell_of_row w9 _ 1 _ _ _ HR9.out
              have k2 : w9.cell? ⟨W0.heap.size, 2, none⟩ = some (.bool g1) := cell_of_row w9 _ 2 _ _ _ HR9.out
              have k3 : w9.cell? ⟨W0.heap.size, 3, none⟩ = some (.string T) := cell_of_row w9 _ 3 _ _ _ HR9.out
              have z0 : w9.cell? ⟨w.heap.size, 0, none⟩ = some (.int .u64 0) := cell_of_row w9 _ 0 _ _ _ HZ9.out
              have z1 : w9.cell? ⟨w.heap.size, 1, none⟩ = some (.int .u64 0) := cell_of_row w9 _ 1 _ _ _ HZ9.out
              have z2 : w9.cell? ⟨w.heap.size, 2, none⟩ = some (.bool false) := cell_of_row w9 _ 2 _ _ _ HZ9.out
              have z3 : w9.cell? ⟨w.heap.size, 3, none⟩ = some (.string ⟨#[]⟩) := cell_of_row w9 _ 3 _ _ _ HZ9.out
              have f0 : w9.frozen? ⟨w.heap.size, 0, none⟩ = false := frozen_of_row w9 _ 0 _ _ HZ9.out
              have f1 : w9.frozen? ⟨w.heap.size, 1, none⟩ = false := frozen_of_row w9 _ 1 _ _ HZ9.out
              have f2 : w9.frozen? ⟨w.heap.size, 2, none⟩ = false := frozen_of_row w9 _ 2 _ _ HZ9.out
              have f3 : w9.frozen? ⟨w.heap.size, 3, none⟩ = false := frozen_of_row w9 _ 3 _ _ HZ9.out
              go_wp2
              go_region
              all_goals
                go_wp2
                (try simp only [Exit.inBlock, Exit.then])
                refine bodyPost_ret (v := decV none) (by rw [results_cell_tmp rfl]; go_simp; rfl) rfl ⟨by rw [HDQ.out], ?_⟩
                exact ((((below_drewN HB9.out (n + 1)).setCell (p := ⟨w.heap.size, 0, none⟩) (Nat.le_refl _) _).setCell (p := ⟨w.heap.size, 1, none⟩) (Nat.le_refl _) _).setCell (p := ⟨w.heap.size, 2, none⟩) (Nat.le_refl _) _).setCell (p := ⟨w.heap.size, 3, none⟩) (Nat.le_refl _) _
          · have HDQ : Hid (decR l = some (s1, n1, g1, T)) := Lib.hid (by
              rw [HDR.out, if_pos (getD_ext (by rw [H8E.out, HE8.out]) (fun j hj => HC.out j (by have := H8E.out; omega)))])
            have k0 : w9.cell? ⟨W0.heap.size, 0, none⟩ = some (.int .u64 s1) := cell_of_row w9 _ 0 _ _ _ HR9.out
            have k1 : w9.cell? ⟨W0.heap.size, 1, none⟩ = some (.int .u64 n1) := cell_of_row w9 _ 1 _ _ _ HR9.out
            have k2 : w9.cell? ⟨W0.heap.size, 2, none⟩ = some (.bool g1) := cell_of_row w9 _ 2 _ _ _ HR9.out
            have k3 : w9.cell? ⟨W0.heap.size, 3, none⟩ = some (.string T) := cell_of_row w9 _ 3 _ _ _ HR9.out
            have z0 : w9.cell? ⟨w.heap.size, 0, none⟩ = some (.int .u64 0) := cell_of_row w9 _ 0 _ _ _ HZ9.out
            have z1 : w9.cell? ⟨w.heap.size, 1, none⟩ = some (.int .u64 0) := cell_of_row w9 _ 1 _ _ _ HZ9.out
            have z2 : w9.cell? ⟨w.heap.size, 2, none⟩ = some (.bool false) := cell_of_row w9 _ 2 _ _ _ HZ9.out
            have z3 : w9.cell? ⟨w.heap.size, 3, none⟩ = some (.string ⟨#[]⟩) := cell_of_row w9 _ 3 _ _ _ HZ9.out
            have f0 : w9.frozen? ⟨w.heap.size, 0, none⟩ = false := frozen_of_row w9 _ 0 _ _ HZ9.out
            have f1 : w9.frozen? ⟨w.heap.size, 1, none⟩ = false := frozen_of_row w9 _ 1 _ _ HZ9.out
            have f2 : w9.frozen? ⟨w.heap.size, 2, none⟩ = false := frozen_of_row w9 _ 2 _ _ HZ9.out
            have f3 : w9.frozen? ⟨w.heap.size, 3, none⟩ = false := frozen_of_row w9 _ 3 _ _ HZ9.out
            go_wp2
            (try simp only [Exit.inBlock, Exit.then])
            refine bodyPost_ret (v := decV (some (s1, n1, g1, T))) (by rw [results_cell_tmp rfl]; go_simp; rfl) rfl ⟨by rw [HDQ.out], ?_⟩
            exact ((((below_drewN HB9.out n).setCell (p := ⟨w.heap.size, 0, none⟩) (Nat.le_refl _) _).setCell (p := ⟨w.heap.size, 1, none⟩) (Nat.le_refl _) _).setCell (p := ⟨w.heap.size, 2, none⟩) (Nat.le_refl _) _).setCell (p := ⟨w.heap.size, 3, none⟩) (Nat.le_refl _) _
      · have hneq : encL s1 n1 g1 T ≠ l := fun h => by
          have h2 : encL s1 n1 g1 T = [] := by unfold encL; rw [if_neg hok]
          rw [h2] at h
          have := HE8.out
          rw [← h] at this
          simp at this
        have hdp := HDP.out
        rw [if_neg hneq] at hdp
        have HDQ := Lib.hid hdp
        clear hdp hneq
        have k0 : w9.cell? ⟨W0.heap.size, 0, none⟩ = some (.int .u64 s1) := cell_of_row w9 _ 0 _ _ _ HR9.out
        have k1 : w9.cell? ⟨W0.heap.size, 1, none⟩ = some (.int .u64 n1) := cell_of_row w9 _ 1 _ _ _ HR9.out
        have k2 : w9.cell? ⟨W0.heap.size, 2, none⟩ = some (.bool g1) := cell_of_row w9 _ 2 _ _ _ HR9.out
        have k3 : w9.cell? ⟨W0.heap.size, 3, none⟩ = some (.string T) := cell_of_row w9 _ 3 _ _ _ HR9.out
        have z0 : w9.cell? ⟨w.heap.size, 0, none⟩ = some (.int .u64 0) := cell_of_row w9 _ 0 _ _ _ HZ9.out
        have z1 : w9.cell? ⟨w.heap.size, 1, none⟩ = some (.int .u64 0) := cell_of_row w9 _ 1 _ _ _ HZ9.out
        have z2 : w9.cell? ⟨w.heap.size, 2, none⟩ = some (.bool false) := cell_of_row w9 _ 2 _ _ _ HZ9.out
        have z3 : w9.cell? ⟨w.heap.size, 3, none⟩ = some (.string ⟨#[]⟩) := cell_of_row w9 _ 3 _ _ _ HZ9.out
        have f0 : w9.frozen? ⟨w.heap.size, 0, none⟩ = false := frozen_of_row w9 _ 0 _ _ HZ9.out
        have f1 : w9.frozen? ⟨w.heap.size, 1, none⟩ = false := frozen_of_row w9 _ 1 _ _ HZ9.out
        have f2 : w9.frozen? ⟨w.heap.size, 2, none⟩ = false := frozen_of_row w9 _ 2 _ _ HZ9.out
        have f3 : w9.frozen? ⟨w.heap.size, 3, none⟩ = false := frozen_of_row w9 _ 3 _ _ HZ9.out
        rw [decide_eq_false hok]
        go_wp2
        (try simp only [Exit.inBlock, Exit.then])
        refine bodyPost_ret (v := decV none) (by rw [results_cell_tmp rfl]; go_simp; rfl) rfl ⟨by rw [HDQ.out], ?_⟩
        exact ((((HB9.out).setCell (p := ⟨w.heap.size, 0, none⟩) (Nat.le_refl _) _).setCell (p := ⟨w.heap.size, 1, none⟩) (Nat.le_refl _) _).setCell (p := ⟨w.heap.size, 2, none⟩) (Nat.le_refl _) _).setCell (p := ⟨w.heap.size, 3, none⟩) (Nat.le_refl _) _
theorem rdec_calls (v : Value) (l : List Int) (w : World) (hI : Ints .u64 w v l) :
    Calls Try.prog 18 #[v] w fun e w' => e = .returned (decV (decP l)) ∧ Below w.heap.size w w' := by
  rw [dec_same]
  by_cases h : decOk l
  · exact rdec_in v l w hI h
  · have e : decR l = none := by unfold decR; simp [h]
    rw [e]
    exact rdec_out v l w hI h
end Go.Proofs.Ytflobafmmfigoaa
