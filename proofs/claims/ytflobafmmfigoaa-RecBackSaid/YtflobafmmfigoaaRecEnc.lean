/- REC: Encode. -/
import Derived.Test.YtflobafmmfigoaaRecFns
import Derived.Test.YtflobafmmfigoaaZeros
namespace Go.Proofs.Ytflobafmmfigoaa
open Go Go.RowKit

theorem first_word (z : Nat) (h : z ≤ 40) : bits .or .u64 3 (IntKind.u64.wrap (IntKind.u64.wrap (z : Int) * 65536)) = 65536 * (z : Int) + 3 := by
  have e1 : IntKind.u64.wrap (z : Int) = z := by rw [IntKind.wrap_u64]; omega
  have e2 : IntKind.u64.wrap ((z : Int) * 65536) = (z : Int) * 2 ^ 16 := by rw [IntKind.wrap_u64]; omega
  rw [e1, e2, or_shift 3 z 16 (by omega) (by decide) (by omega) (by omega)]
  omega
theorem or_byte (y x : Int) (k : Nat) (h0 : 0 ≤ x) (h1 : x ≤ 255) (h2 : 0 ≤ y) (h3 : y < 256 ^ (k % 8)) : bits .or .u64 y (IntKind.u64.wrap (x * 2 ^ (8 * (k % 8)))) = y + x * 256 ^ (k % 8) ∧ W64 (y + x * 256 ^ (k % 8)) := by
  have hj : k % 8 < 8 := by omega
  generalize k % 8 = j at *
  have e : (256 : Int) ^ j = 2 ^ (8 * j) := by rw [Int.pow_mul]; rfl
  have h4 : ((2 : Int) ^ (8 * j)) ≤ 72057594037927936 := by
    have h := Int.ofNat_le.2 (Nat.pow_le_pow_right (n := 2) (by omega) (show 8 * j ≤ 56 by omega))
    rw [Int.natCast_pow, Int.natCast_pow] at h
    exact h
  have h5 : (0 : Int) < 2 ^ (8 * j) := Int.pow_pos (by omega)
  have h6 : x * 2 ^ (8 * j) ≤ 255 * 2 ^ (8 * j) := Int.mul_le_mul_of_nonneg_right h1 (Int.le_of_lt h5)
  have h7 : 0 ≤ x * 2 ^ (8 * j) := Int.mul_nonneg h0 (Int.le_of_lt h5)
  rw [e] at h3 ⊢
  have e2 : IntKind.u64.wrap (x * 2 ^ (8 * j)) = x * 2 ^ (8 * j) := by rw [IntKind.wrap_u64]; omega
  rw [e2]
  exact ⟨or_shift y x (8 * j) h2 h3 h0 (by omega), by unfold W64; omega⟩
theorem cell_setCell_other' {w : World} {q p : Addr} (v : Value) (h : q.block ≠ p.block) (_ : True := trivial) : (w.setCell p v).cell? q = w.cell? q := by
  unfold World.cell?
  rw [Below.heap_setCell _ _ _ _ h]
theorem Ints.setCell_other {kk : IntKind} {w : World} {b n c : Nat} {l : List Int} (h : Ints kk w (.slice (some ⟨b, 0, none⟩) n c) l) {q : Addr} (hq : q.block ≠ b) (v : Value) : Ints kk (w.setCell q v) (.slice (some ⟨b, 0, none⟩) n c) l := by
  obtain ⟨h1, h2, h3⟩ := h
  refine ⟨h1, h2, ?_⟩
  rcases h3 with h3 | ⟨b', off, cap, hv, hlc, hc⟩
  · exact .inl h3
  · simp only [Value.slice.injEq, Option.some.injEq, Addr.mk.injEq, and_true] at hv
    obtain ⟨⟨rfl, rfl⟩, rfl, rfl⟩ := hv
    refine .inr ⟨b, 0, c, rfl, hlc, fun j hj => ?_⟩
    rw [← hc j hj]
    unfold World.cell?
    rw [Below.heap_setCell _ _ _ _ (by simpa using Ne.symm hq)]
set_option maxHeartbeats 1600000 in
theorem enc_calls (s n : Int) (g : Bool) (t : ByteArray) (w : World) (hs : W64 s) (hn : W64 n) :
    Calls Try.prog 15 #[.agg #[.int .u64 s, .int .u64 n, .bool g, .string t]] w fun e w' => ∃ v, e = .returned (.tuple #[v, .bool (decide (recOk s g t))]) ∧ Own .u64 22 w' w.heap.size v (encL s n g t) ∧ Below w.heap.size w w' := by
  have HB : Hid (∀ o, Below w.heap.size w (w.alloc o)) := Lib.hid (fun o => (Below.refl w.heap.size w).alloc (Nat.le_refl _) o)
  have HS := Lib.hid hs
  have HN := Lib.hid hn
  clear hs hn
  have kc := fun (W : World) => Lib.run_convert_string_bytes (P := Try.prog) W 9 43 5 t Try.underlying9 Try.underlying43 Try.underlying5
  by_cases hok : recOk s g t
  · have hd : decide (recOk s g t) = true := decide_eq_true hok
    have hF := first_word t.size hok.2.1
    have HOK := Lib.hid hok
    cases g
    · have HE : Hid (encL s n false t = wl (65536 * (t.size : Int) + 3) s n (bytesOf t)) := Lib.hid (by unfold encL; rw [if_pos hok]; unfold recF; simp)
      have HFW : Hid (∀ c ∈ [65536 * (t.size : Int) + 3, s, n], (Lit.int .u64 c).wf = true) := Lib.hid (fun c hc => by
        simp only [List.mem_cons, List.not_mem_nil, or_false] at hc
        rcases hc with rfl | rfl | rfl
        · refine wf_u64 ?_; unfold W64; have := hok.2.1; omega
        · exact wf_u64 HS.out
        · exact wf_u64 HN.out)
      rw [hd]
      clear hok hd
      go_enter Try.func15, Try.ntmps15
      go_wp2_with (first | (go_at_call 19; refine (right_calls _ _ _ _ _).mono ?_; rintro e w1 ⟨rfl, hb1⟩; rw [decide_eq_true HOK.out]; have hc0 : w1.cell? ⟨w.heap.size, 0, none⟩ = some (.int .u64 s) := later_cell hb1 0 _ rfl; have hc1 : w1.cell? ⟨w.heap.size, 1, none⟩ = some (.int .u64 n) := later_cell hb1 1 _ rfl; have hc2 : w1.cell? ⟨w.heap.size, 2, none⟩ = some (.bool false) := later_cell hb1 2 _ rfl; have hc3 : w1.cell? ⟨w.heap.size, 3, none⟩ = some (.string t) := later_cell hb1 3 _ rfl; have hlt : w.heap.size < w1.heap.size := Nat.lt_of_lt_of_le (by simp) hb1.size; have hd2 : ∀ cs : Array Value, (w1.alloc (.cells cs 22)).cell? ⟨w.heap.size, 2, none⟩ = some (.bool false) := (fun cs => (World.cell?_alloc_lt _ _ _ hlt).trans hc2); have hd3 : ∀ cs : Array Value, (w1.alloc (.cells cs 22)).cell? ⟨w.heap.size, 3, none⟩ = some (.string t) := (fun cs => (World.cell?_alloc_lt _ _ _ hlt).trans hc3); have HB1 := Lib.hid ((HB.out _).trans (hb1.mono (by simp))); have HD3 := Lib.hid hd3; clear hb1 hd3) | (at_builtin; refine wpList_zeros rfl (.tmp 28) (.const (.int .i64 5)) 25 3 5 rfl rfl Try.underlying3 rowOf25 _ 3 [65536 * (t.size : Int) + 3, s, n] rfl (Ints.ofRow (heap_alloc_new w1 _) HFW.out (by simp) (by simp) ?c1) (by simp) (by omega) (by simp) (by simp [maxLen]) (by omega) (show Builtin.nextslicecap 8 3 * 8 ≤ 281474976710656 from by decide) (by decide) ?_; (case c1 => (intro j hj; simp at hj; rcases j with _ | _ | _ | j <;> first | rfl | omega)); intro cap w3 hown3 hb3; have hc3' : w3.cell? ⟨w.heap.size, 3, none⟩ = some (.string t) := (hb3.cell (by simp; omega)).trans (HD3.out _); have HB3 := Lib.hid hb3; have HOWN3 := Lib.hid hown3; clear hb3 hown3))
      have HOW : Hid (Own .u64 22 w3 w.heap.size (.slice (some ⟨w1.heap.size + 1, 0, none⟩) 8 cap) (wl (65536 * (t.size : Int) + 3) s n [])) := Lib.hid (by
        have h := HOWN3.out.mono (base' := w.heap.size) (by simp; omega)
        rw [wl_nil]
        simpa using h)
      have hgw : w1.heap.size + 1 < w3.heap.size := by
        have h := (World.ownsRow.lt HOWN3.out.1 (w1.heap.size + 1) (by simp [Value.ownBlock])).2
        exact h
      have HBW : Hid (Below w.heap.size w w3) := Lib.hid ((HB1.out.alloc (by omega) _).trans (HB3.out.mono (by simp; omega)))
      have hb0 := bytes_conv_below (Below.refl w3.heap.size w3) (Nat.le_refl _) 5 t
      have HC := Lib.hid (bytes_conv w3 5 t (by have := HOK.out.2.1; omega))
      have hne : w1.heap.size + 1 ≠ w3.heap.size := by omega
      have HOW2 := Lib.hid (HOW.out.below hb0)
      have HBW2 := Lib.hid (below_next HBW.out hb0)
      have hwl : w.heap.size ≤ w1.heap.size + 1 := by omega
      clear hb0 HOW HBW HB3 HOWN3 HD3 hd2 hc0 hc1 hc2 hc3 hlt hc3' HB1 hF hgw kc
      generalize Lib.bytesWorld w3 5 t = W at *
      generalize grownCap w3 t.size 0 5 = cc at *
      generalize w3.heap.size = C at *
      generalize w1.heap.size + 1 = G at *
      have HL := Lib.hid (bytesOf_length t)
      have HBD := Lib.hid (bytesOf_bd t)
      have hsz := HOK.out.2.1
      go_loopw [34] (fun i wr => ∃ k : Nat, k ≤ t.size ∧ i = .int .i64 k ∧ Own .u64 22 wr w.heap.size (.slice (some ⟨G, 0, none⟩) 8 cap) (wl (65536 * (t.size : Int) + 3) s n ((bytesOf t).take k)) ∧ Ints .u8 wr (.slice (some ⟨C, 0, none⟩) t.size cc) (bytesOf t) ∧ Below w.heap.size w wr) (fun i _ => t.size - (intOf i).toNat)
      case atStart => exact ⟨0, Nat.zero_le _, rfl, HOW2.out, HC.out, HBW2.out⟩
      case round =>
        obtain ⟨k, hk, rfl, hown, hint, hbw⟩ := hrel
        have HOWN := Lib.hid hown
        have HINT := Lib.hid hint
        have HBW := Lib.hid hbw
        clear hown hint hbw
        by_cases hlt : k < t.size
        · have hcell : wr.cell? ⟨C, k, none⟩ = some (.int .u8 ((bytesOf t).getD k 0)) := by
            obtain ⟨b, off, hb', hcs⟩ := HINT.out.cells (by rw [HL.out]; omega)
            simp only [Option.some.injEq, Addr.mk.injEq, and_true] at hb'
            obtain ⟨rfl, rfl⟩ := hb'
            have := hcs k (by rw [HL.out]; exact hlt)
            rwa [Nat.zero_add] at this
          have hrow : wr.cell? ⟨G, 3 + k / 8, none⟩ = some (.int .u64 (wd ((bytesOf t).take k) (k / 8))) := by
            obtain ⟨b, off, hb', hcs⟩ := (HOWN.out.ints (by rw [wl_length]; omega)).cells (by rw [wl_length]; omega)
            simp only [Option.some.injEq, Addr.mk.injEq, and_true] at hb'
            obtain ⟨rfl, rfl⟩ := hb'
            have := hcs (3 + k / 8) (by rw [wl_length]; omega)
            rwa [Nat.zero_add, wl_at _ _ _ _ _ (by omega)] at this
          have hfz : wr.frozen? ⟨G, 3 + k / 8, none⟩ = false := HOWN.out.1.frozenAt _
          have ⟨c0, c1⟩ := at_bd HBD.out k (by rw [HL.out]; exact hlt)
          have ⟨d0, d1⟩ := wd_low HBD.out (show k < (bytesOf t).length by rw [HL.out]; exact hlt)
          have HST := Lib.hid (wl_step (65536 * (t.size : Int) + 3) s n (show k < (bytesOf t).length by rw [HL.out]; exact hlt) (by rw [HL.out]; exact hsz))
          generalize wd ((bytesOf t).take k) (k / 8) = y at *
          generalize (bytesOf t).getD k 0 = x at *
          go_wp2
          go_region
          all_goals
            have ⟨hx, hbd⟩ := or_byte y x k c0 c1 d0 d1
            rw [hx]
            have HST' := HST.out
            go_wp2
            go_roundw
            case rel => exact ⟨k + 1, hlt, by go_num, by rw [← HST']; exact ((HOWN.out.stored rfl (3 + k / 8) _ (wf_u64 hbd)).drew), (HINT.out.setCell_other (by simpa using hne) _).drew, Below.drew (Own.stored_below HBW.out HOWN.out rfl (by omega) _ _)⟩
            case measure => simp [intOf]; omega
        · obtain rfl : k = t.size := by omega
          have hfull : (bytesOf t).take t.size = bytesOf t := List.take_of_length_le (by rw [HL.out]; omega)
          have hfin := HOWN.out
          rw [hfull] at hfin
          have HFIN := Lib.hid hfin
          clear hfull hfin
          go_wp2
          go_ret2
          exact ⟨_, rfl, by rw [HE.out]; exact HFIN.out, HBW.out⟩
    · have HE : Hid (encL s n true t = wl (65536 * (t.size : Int) + 259) s n (bytesOf t)) := Lib.hid (by unfold encL; rw [if_pos hok]; unfold recF; congr 1)
      have HFW : Hid (∀ c ∈ [65536 * (t.size : Int) + 259, s, n], (Lit.int .u64 c).wf = true) := Lib.hid (fun c hc => by
        simp only [List.mem_cons, List.not_mem_nil, or_false] at hc
        rcases hc with rfl | rfl | rfl
        · refine wf_u64 ?_; unfold W64; have := hok.2.1; omega
        · exact wf_u64 HS.out
        · exact wf_u64 HN.out)
      have hG : bits .or .u64 (65536 * (t.size : Int) + 3) 256 = 65536 * (t.size : Int) + 259 := by rw [hok.2.2 rfl]; rfl
      rw [hd]
      clear hok hd
      go_enter Try.func15, Try.ntmps15
      go_wp2_with (first | (go_at_call 19; refine (right_calls _ _ _ _ _).mono ?_; rintro e w1 ⟨rfl, hb1⟩; rw [decide_eq_true HOK.out]; have hc0 : w1.cell? ⟨w.heap.size, 0, none⟩ = some (.int .u64 s) := later_cell hb1 0 _ rfl; have hc1 : w1.cell? ⟨w.heap.size, 1, none⟩ = some (.int .u64 n) := later_cell hb1 1 _ rfl; have hc2 : w1.cell? ⟨w.heap.size, 2, none⟩ = some (.bool true) := later_cell hb1 2 _ rfl; have hc3 : w1.cell? ⟨w.heap.size, 3, none⟩ = some (.string t) := later_cell hb1 3 _ rfl; have hlt : w.heap.size < w1.heap.size := Nat.lt_of_lt_of_le (by simp) hb1.size; have hd2 : ∀ cs : Array Value, (w1.alloc (.cells cs 22)).cell? ⟨w.heap.size, 2, none⟩ = some (.bool true) := (fun cs => (World.cell?_alloc_lt _ _ _ hlt).trans hc2); have hd3 : ∀ cs : Array Value, (w1.alloc (.cells cs 22)).cell? ⟨w.heap.size, 3, none⟩ = some (.string t) := (fun cs => (World.cell?_alloc_lt _ _ _ hlt).trans hc3); have HB1 := Lib.hid ((HB.out _).trans (hb1.mono (by simp))); have HD3 := Lib.hid hd3; clear hb1 hd3) | (at_builtin; refine wpList_zeros rfl (.tmp 28) (.const (.int .i64 5)) 25 3 5 rfl rfl Try.underlying3 rowOf25 _ 3 [65536 * (t.size : Int) + 259, s, n] rfl (Ints.ofRow (heap_alloc_new w1 _) HFW.out (by simp) (by simp) ?c1) (by simp) (by omega) (by simp) (by simp [maxLen]) (by omega) (show Builtin.nextslicecap 8 3 * 8 ≤ 281474976710656 from by decide) (by decide) ?_; (case c1 => (intro j hj; simp at hj; rcases j with _ | _ | _ | j <;> first | rfl | omega)); intro cap w3 hown3 hb3; have hc3' : w3.cell? ⟨w.heap.size, 3, none⟩ = some (.string t) := (hb3.cell (by simp; omega)).trans (HD3.out _); have HB3 := Lib.hid hb3; have HOWN3 := Lib.hid hown3; clear hb3 hown3))
      have HOW : Hid (Own .u64 22 w3 w.heap.size (.slice (some ⟨w1.heap.size + 1, 0, none⟩) 8 cap) (wl (65536 * (t.size : Int) + 259) s n [])) := Lib.hid (by
        have h := HOWN3.out.mono (base' := w.heap.size) (by simp; omega)
        rw [wl_nil]
        simpa using h)
      have hgw : w1.heap.size + 1 < w3.heap.size := by
        have h := (World.ownsRow.lt HOWN3.out.1 (w1.heap.size + 1) (by simp [Value.ownBlock])).2
        exact h
      have HBW : Hid (Below w.heap.size w w3) := Lib.hid ((HB1.out.alloc (by omega) _).trans (HB3.out.mono (by simp; omega)))
      have hb0 := bytes_conv_below (Below.refl w3.heap.size w3) (Nat.le_refl _) 5 t
      have HC := Lib.hid (bytes_conv w3 5 t (by have := HOK.out.2.1; omega))
      have hne : w1.heap.size + 1 ≠ w3.heap.size := by omega
      have HOW2 := Lib.hid (HOW.out.below hb0)
      have HBW2 := Lib.hid (below_next HBW.out hb0)
      have hwl : w.heap.size ≤ w1.heap.size + 1 := by omega
      clear hb0 HOW HBW HB3 HOWN3 HD3 hd2 hc0 hc1 hc2 hc3 hlt hc3' HB1 hF hgw kc
      generalize Lib.bytesWorld w3 5 t = W at *
      generalize grownCap w3 t.size 0 5 = cc at *
      generalize w3.heap.size = C at *
      generalize w1.heap.size + 1 = G at *
      have HL := Lib.hid (bytesOf_length t)
      have HBD := Lib.hid (bytesOf_bd t)
      have hsz := HOK.out.2.1
      go_loopw [34] (fun i wr => ∃ k : Nat, k ≤ t.size ∧ i = .int .i64 k ∧ Own .u64 22 wr w.heap.size (.slice (some ⟨G, 0, none⟩) 8 cap) (wl (65536 * (t.size : Int) + 259) s n ((bytesOf t).take k)) ∧ Ints .u8 wr (.slice (some ⟨C, 0, none⟩) t.size cc) (bytesOf t) ∧ Below w.heap.size w wr) (fun i _ => t.size - (intOf i).toNat)
      case atStart => exact ⟨0, Nat.zero_le _, rfl, HOW2.out, HC.out, HBW2.out⟩
      case round =>
        obtain ⟨k, hk, rfl, hown, hint, hbw⟩ := hrel
        have HOWN := Lib.hid hown
        have HINT := Lib.hid hint
        have HBW := Lib.hid hbw
        clear hown hint hbw
        by_cases hlt : k < t.size
        · have hcell : wr.cell? ⟨C, k, none⟩ = some (.int .u8 ((bytesOf t).getD k 0)) := by
            obtain ⟨b, off, hb', hcs⟩ := HINT.out.cells (by rw [HL.out]; omega)
            simp only [Option.some.injEq, Addr.mk.injEq, and_true] at hb'
            obtain ⟨rfl, rfl⟩ := hb'
            have := hcs k (by rw [HL.out]; exact hlt)
            rwa [Nat.zero_add] at this
          have hrow : wr.cell? ⟨G, 3 + k / 8, none⟩ = some (.int .u64 (wd ((bytesOf t).take k) (k / 8))) := by
            obtain ⟨b, off, hb', hcs⟩ := (HOWN.out.ints (by rw [wl_length]; omega)).cells (by rw [wl_length]; omega)
            simp only [Option.some.injEq, Addr.mk.injEq, and_true] at hb'
            obtain ⟨rfl, rfl⟩ := hb'
            have := hcs (3 + k / 8) (by rw [wl_length]; omega)
            rwa [Nat.zero_add, wl_at _ _ _ _ _ (by omega)] at this
          have hfz : wr.frozen? ⟨G, 3 + k / 8, none⟩ = false := HOWN.out.1.frozenAt _
          have ⟨c0, c1⟩ := at_bd HBD.out k (by rw [HL.out]; exact hlt)
          have ⟨d0, d1⟩ := wd_low HBD.out (show k < (bytesOf t).length by rw [HL.out]; exact hlt)
          have HST := Lib.hid (wl_step (65536 * (t.size : Int) + 259) s n (show k < (bytesOf t).length by rw [HL.out]; exact hlt) (by rw [HL.out]; exact hsz))
          generalize wd ((bytesOf t).take k) (k / 8) = y at *
          generalize (bytesOf t).getD k 0 = x at *
          go_wp2
          go_region
          all_goals
            have ⟨hx, hbd⟩ := or_byte y x k c0 c1 d0 d1
            rw [hx]
            have HST' := HST.out
            go_wp2
            go_roundw
            case rel => exact ⟨k + 1, hlt, by go_num, by rw [← HST']; exact ((HOWN.out.stored rfl (3 + k / 8) _ (wf_u64 hbd)).drew), (HINT.out.setCell_other (by simpa using hne) _).drew, Below.drew (Own.stored_below HBW.out HOWN.out rfl (by omega) _ _)⟩
            case measure => simp [intOf]; omega
        · obtain rfl : k = t.size := by omega
          have hfull : (bytesOf t).take t.size = bytesOf t := List.take_of_length_le (by rw [HL.out]; omega)
          have hfin := HOWN.out
          rw [hfull] at hfin
          have HFIN := Lib.hid hfin
          clear hfull hfin
          go_wp2
          go_ret2
          exact ⟨_, rfl, by rw [HE.out]; exact HFIN.out, HBW.out⟩
  · have HE : Hid (encL s n g t = []) := Lib.hid (by unfold encL; rw [if_neg hok])
    have hd : decide (recOk s g t) = false := decide_eq_false hok
    rw [hd]
    go_enter Try.func15, Try.ntmps15
    go_wp2_with (go_at_call 19; refine (right_calls _ _ _ _ _).mono ?_; rintro e w1 ⟨rfl, hb1⟩; rw [decide_eq_false hok]; have HB1 := Lib.hid hb1; clear hb1)
    go_ret2
    refine ⟨_, rfl, ?_, ?_⟩
    · rw [HE.out]; exact Own.nil_ _ _ _ _
    · exact (HB.out _).trans (HB1.out.mono (by simp))
end Go.Proofs.Ytflobafmmfigoaa
