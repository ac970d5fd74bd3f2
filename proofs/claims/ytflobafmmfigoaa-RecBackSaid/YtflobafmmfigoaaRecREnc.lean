/- REC: the document's Encode. -/
import Derived.Test.YtflobafmmfigoaaRecEnc
import Derived.Test.YtflobafmmfigoaaNibOrder
namespace Go.Proofs.Ytflobafmmfigoaa
open Go Go.RowKit

theorem hz_step (T : List Int) (i p : Nat) (hp : p < 8) :
    leW (((T.drop (8 * i)).take 8).drop p) = leW (((T.drop (8 * i)).take 8).drop (p + 1)) * 256 + (if 8 * i + p < T.length then T.getD (8 * i + p) 0 else 0) := by
  have hl : ((T.drop (8 * i)).take 8).length = min 8 (T.length - 8 * i) := by rw [List.length_take, List.length_drop]
  by_cases h : 8 * i + p < T.length
  · rw [if_pos h, List.drop_eq_getElem_cons (by rw [hl]; omega)]
    simp only [leW]
    have e : ((T.drop (8 * i)).take 8)[p]'(by rw [hl]; omega) = T.getD (8 * i + p) 0 := by
      simp [h]
    rw [e]; omega
  · rw [if_neg h, List.drop_of_length_le (by rw [hl]; omega), List.drop_of_length_le (by rw [hl]; omega)]
    rfl
theorem hz_bd (T : List Int) (hT : Byte T) (i p : Nat) : 0 ≤ leW (((T.drop (8 * i)).take 8).drop (p + 1)) ∧ leW (((T.drop (8 * i)).take 8).drop (p + 1)) < 72057594037927936 := by
  have h := leW_bd (((T.drop (8 * i)).take 8).drop (p + 1)) (fun c hc => wd_byte hT i c (List.mem_of_mem_drop hc))
  have hl : (((T.drop (8 * i)).take 8).drop (p + 1)).length ≤ 7 := by rw [List.length_drop, List.length_take]; omega
  refine ⟨h.1, Int.lt_of_lt_of_le h.2 ?_⟩
  have h2 := Int.ofNat_le.2 (Nat.pow_le_pow_right (n := 256) (by omega) hl)
  rw [Int.natCast_pow, Int.natCast_pow] at h2
  exact h2
theorem rfirst_word (z : Nat) (h : z ≤ 40) : IntKind.u64.wrap (3 + IntKind.u64.wrap (65536 * IntKind.u64.wrap (z : Int))) = 65536 * (z : Int) + 3 := by
  rw [IntKind.wrap_u64, IntKind.wrap_u64, IntKind.wrap_u64]; omega
set_option maxHeartbeats 1600000 in
theorem renc_calls (s n : Int) (g : Bool) (t : ByteArray) (w : World) (hs : W64 s) (hn : W64 n) :
    Calls Try.prog 16 #[.agg #[.int .u64 s, .int .u64 n, .bool g, .string t]] w fun e w' => ∃ v, e = .returned (.tuple #[v, .bool (decide (recOk s g t))]) ∧ Own .u64 22 w' w.heap.size v (encL s n g t) ∧ Below w.heap.size w w' := by
  have HB : Hid (∀ o, Below w.heap.size w (w.alloc o)) := Lib.hid (fun o => (Below.refl w.heap.size w).alloc (Nat.le_refl _) o)
  have HS := Lib.hid hs
  have HN := Lib.hid hn
  clear hs hn
  by_cases hok : recOk s g t
  · have hd : decide (recOk s g t) = true := decide_eq_true hok
    have hF := rfirst_word t.size hok.2.1
    have HOK := Lib.hid hok
    cases g
    · have HE : Hid (encL s n false t = wl (65536 * (t.size : Int) + 3) s n (bytesOf t)) := Lib.hid (by unfold encL; rw [if_pos hok]; unfold recF; simp)
      have HFW : Hid (∀ c ∈ [65536 * (t.size : Int) + 3, s, n], (Lit.int .u64 c).wf = true) := Lib.hid (fun c hc => by
        simp only [List.mem_cons, List.not_mem_nil, or_false] at hc
        rcases hc with rfl | rfl | rfl
        · refine wf_u64 ?_; unfold W64; have := hok.2.1; omega
        · exact wf_u64 HS.out
        · exact wf_u64 HN.out)
      rw [hd]
      clear hok hd
      go_enter Try.func16, Try.ntmps16
      go_wp2_with (go_at_call 20; refine (rright_calls _ _ _ _ _).mono ?_; rintro e w1 ⟨rfl, hb1⟩; rw [decide_eq_true HOK.out]; have hc0 : w1.cell? ⟨w.heap.size, 0, none⟩ = some (.int .u64 s) := later_cell hb1 0 _ rfl; have hc1 : w1.cell? ⟨w.heap.size, 1, none⟩ = some (.int .u64 n) := later_cell hb1 1 _ rfl; have hc2 : w1.cell? ⟨w.heap.size, 2, none⟩ = some (.bool false) := later_cell hb1 2 _ rfl; have hc3 : w1.cell? ⟨w.heap.size, 3, none⟩ = some (.string t) := later_cell hb1 3 _ rfl; have hlt : w.heap.size < w1.heap.size := Nat.lt_of_lt_of_le (by simp) hb1.size; have HB1 := Lib.hid ((HB.out _).trans (hb1.mono (by simp))); clear hb1)
      have HO : Hid (Own .u64 22 (w1.alloc (.cells #[.int .u64 (65536 * (t.size : Int) + 3), .int .u64 s, .int .u64 n] 22)) w1.heap.size (.slice (some ⟨w1.heap.size, 0, none⟩) 3 3) [65536 * (t.size : Int) + 3, s, n]) :=
        Lib.hid ⟨World.ownsRow_lit (base := w1.heap.size) w1 _ 3 (Nat.le_refl _) (by simp [maxLen]) rfl, HFW.out⟩
      have HBW : Hid (Below w1.heap.size w1 (w1.alloc (.cells #[.int .u64 (65536 * (t.size : Int) + 3), .int .u64 s, .int .u64 n] 22))) := Lib.hid ((Below.refl w1.heap.size w1).alloc (Nat.le_refl _) _)
      have HC3 := Lib.hid hc3
      have HLT := Lib.hid hlt
      clear hc0 hc1 hc2 hc3 hlt hF HFW
      generalize (w1.alloc (.cells #[.int .u64 (65536 * (t.size : Int) + 3), .int .u64 s, .int .u64 n] 22)) = W0 at *
      generalize hbs : w1.heap.size = base at *
      have HBS := Lib.hid hbs
      clear hbs
      have HL := Lib.hid (bytesOf_length t)
      have HBD := Lib.hid (bytesOf_bd t)
      have HAT := Lib.hid (bytes_at t)
      go_loopw [5, 6] (fun v i wr => ∃ k : Nat, k ≤ 5 ∧ i = .int .i64 k ∧ Own .u64 22 wr base v ([65536 * (t.size : Int) + 3, s, n] ++ (List.range k).map (wd (bytesOf t))) ∧ Below base w1 wr) (fun _ i _ => 5 - (intOf i).toNat)
      case atStart => exact ⟨0, by omega, rfl, HO.out, HBW.out⟩
      case round =>
        obtain ⟨k, hk, rfl, hown, hbw⟩ := hrel
        have HLL : Hid (([65536 * (t.size : Int) + 3, s, n] ++ (List.range k).map (wd (bytesOf t))).length = 3 + k) := Lib.hid (by simp; omega)
        have HSS : Hid (([65536 * (t.size : Int) + 3, s, n] ++ (List.range (k + 1)).map (wd (bytesOf t))) = ([65536 * (t.size : Int) + 3, s, n] ++ (List.range k).map (wd (bytesOf t))) ++ [wd (bytesOf t) k]) := Lib.hid (by rw [List.range_succ, List.map_append, List.append_assoc]; rfl)
        have HFI : Hid (k = 5 → ([65536 * (t.size : Int) + 3, s, n] ++ (List.range k).map (wd (bytesOf t))) = encL s n false t) := Lib.hid (fun h => by subst h; rw [HE.out]; rfl)
        have hc3 : wr.cell? ⟨w.heap.size, 3, none⟩ = some (.string t) := (hbw.cell HLT.out).trans HC3.out
        generalize ([65536 * (t.size : Int) + 3, s, n] ++ (List.range k).map (wd (bytesOf t))) = l at *
        obtain ⟨A, c, rfl⟩ := hown.slice
        have HOWN := Lib.hid hown
        have HBR := Lib.hid hbw
        clear hown hbw
        by_cases hlt5 : k < 5
        · go_wp2
          go_loopw [7, 8] (fun x j wr' => ∃ m : Nat, m ≤ 8 ∧ j = .int .i64 ((m : Int) - 1) ∧ x = .int .u64 (leW ((((bytesOf t).drop (8 * k)).take 8).drop m)) ∧ wr = wr') (fun _ j _ => (intOf j + 1).toNat)
          case atStart => exact ⟨8, by omega, rfl, by rw [List.drop_of_length_le (by rw [List.length_take]; omega)]; rfl, rfl⟩
          case round =>
            obtain ⟨m, hm, rfl, rfl, rfl⟩ := hrel
            rcases m with _ | p
            · have hbdw := wd_bd HBD.out k
              have hX : leW ((((bytesOf t).drop (8 * k)).take 8).drop 0) = wd (bytesOf t) k := rfl
              rw [hX]
              have HBDW := Lib.hid hbdw
              clear hX hbdw
              generalize wd (bytesOf t) k = x at *
              have HNEW : Hid (Ints .u64 (wr.alloc (.cells #[.int .u64 x] 22)) (.slice (some ⟨wr.heap.size, 0, none⟩) 1 1) [x]) := Lib.hid (Ints.ofRow (l := [x]) (cap := 1) (heap_alloc_new wr _) (by intro q hq; rw [List.mem_singleton] at hq; subst hq; exact wf_u64 HBDW.out) (by simp) (by simp) (by intro j hj; simp at hj; subst hj; rfl))
              go_wp2_with (at_builtin; go_loud (refine wpList_grow rfl (.tmp 56) (.tmp 58) 25 rfl rowOf25 base _ l rfl (HOWN.out.alloc _) _ [x] rfl HNEW.out 8 ?c2 ⟨by simp [maxLen], by omega⟩ ?c1 ?_; (case c1 => (have := HBR.out.size; have := HBS.out; simp; omega)); (case c2 => (rw [HLL.out]; simp; omega)); intro A4 c4 w4 hown4 hb4))
              go_roundw
              case rel => exact ⟨k + 1, by omega, by go_num, by rw [HSS.out]; exact hown4, (HBR.out.alloc (by have := HBR.out.size; have := HBS.out; omega) _).trans hb4⟩
              case measure => simp [intOf]; omega
            · have HST := Lib.hid (hz_step (bytesOf t) k p (by omega))
              have ⟨y0, y1⟩ := hz_bd (bytesOf t) HBD.out k p
              by_cases hin : 8 * k + p < t.size
              · have hx := HAT.out (8 * k + p) hin
                have hst := HST.out
                rw [if_pos (by rw [HL.out]; exact hin)] at hst
                have ⟨c0, c1⟩ := at_bd HBD.out (8 * k + p) (by rw [HL.out]; exact hin)
                have HST2 := Lib.hid hst
                clear hst
                generalize leW ((((bytesOf t).drop (8 * k)).take 8).drop (p + 1)) = y at *
                generalize (bytesOf t).getD (8 * k + p) 0 = x at *
                have q0 : (0 : Int) ≤ 8 * (k : Int) + (p : Int) := by omega
                have q1 : 8 * (k : Int) + (p : Int) < (t.size : Int) := by omega
                have q2 : (8 * (k : Int) + (p : Int)).toNat = 8 * k + p := by omega
                have q3 : decide (8 * (k : Int) + (p : Int) < (t.size : Int)) = true := by simpa using q1
                have e1 : IntKind.u64.wrap (y * 256) = y * 256 := by rw [IntKind.wrap_u64]; omega
                have e2 : IntKind.u64.wrap (y * 256 + x) = y * 256 + x := by rw [IntKind.wrap_u64]; omega
                have e3 : IntKind.u64.wrap x = x := by rw [IntKind.wrap_u64]; omega
                have e4 : (((p + 1 : Nat) : Int) - 1) = (p : Int) := by omega
                rw [e4]
                go_wp2
                go_roundw
                case rel => exact ⟨p, by omega, by go_num, by rw [HST2.out], trivial⟩
                case measure => simp [intOf]
              · have hst := HST.out
                rw [if_neg (by rw [HL.out]; exact hin), Int.add_zero] at hst
                have HST2 := Lib.hid hst
                clear hst
                generalize leW ((((bytesOf t).drop (8 * k)).take 8).drop (p + 1)) = y at *
                have q3 : decide (8 * (k : Int) + (p : Int) < (t.size : Int)) = false := by simp; omega
                have e1 : IntKind.u64.wrap (y * 256) = y * 256 := by rw [IntKind.wrap_u64]; omega
                have e4 : (((p + 1 : Nat) : Int) - 1) = (p : Int) := by omega
                rw [e4]
                go_wp2
                go_roundw
                case rel => exact ⟨p, by omega, by go_num, by rw [HST2.out], trivial⟩
                case measure => simp [intOf]
        · have h5 := HFI.out (by omega)
          have hfin := HOWN.out
          rw [h5] at hfin
          have hl8 : l.length = (encL s n false t).length := by rw [h5]
          rw [hl8]
          have HFIN := Lib.hid hfin
          clear hfin h5
          go_wp2
          go_ret2
          exact ⟨_, rfl, HFIN.out.mono (by have := HLT.out; omega), HB1.out.trans (HBR.out.mono (by have := HLT.out; omega))⟩
    · have HE : Hid (encL s n true t = wl (65536 * (t.size : Int) + 259) s n (bytesOf t)) := Lib.hid (by unfold encL; rw [if_pos hok]; unfold recF; congr 1)
      have HFW : Hid (∀ c ∈ [65536 * (t.size : Int) + 259, s, n], (Lit.int .u64 c).wf = true) := Lib.hid (fun c hc => by
        simp only [List.mem_cons, List.not_mem_nil, or_false] at hc
        rcases hc with rfl | rfl | rfl
        · refine wf_u64 ?_; unfold W64; have := hok.2.1; omega
        · exact wf_u64 HS.out
        · exact wf_u64 HN.out)
      have hG : IntKind.u64.wrap (65536 * (t.size : Int) + 3 + 256) = 65536 * (t.size : Int) + 259 := by rw [IntKind.wrap_u64]; have := hok.2.1; omega
      have hG2 : IntKind.u64.wrap (65536 * (t.size : Int) + 259) = 65536 * (t.size : Int) + 259 := by rw [IntKind.wrap_u64]; have := hok.2.1; omega
      rw [hd]
      clear hok hd
      go_enter Try.func16, Try.ntmps16
      go_wp2_with (go_at_call 20; refine (rright_calls _ _ _ _ _).mono ?_; rintro e w1 ⟨rfl, hb1⟩; rw [decide_eq_true HOK.out]; have hc0 : w1.cell? ⟨w.heap.size, 0, none⟩ = some (.int .u64 s) := later_cell hb1 0 _ rfl; have hc1 : w1.cell? ⟨w.heap.size, 1, none⟩ = some (.int .u64 n) := later_cell hb1 1 _ rfl; have hc2 : w1.cell? ⟨w.heap.size, 2, none⟩ = some (.bool true) := later_cell hb1 2 _ rfl; have hc3 : w1.cell? ⟨w.heap.size, 3, none⟩ = some (.string t) := later_cell hb1 3 _ rfl; have hlt : w.heap.size < w1.heap.size := Nat.lt_of_lt_of_le (by simp) hb1.size; have HB1 := Lib.hid ((HB.out _).trans (hb1.mono (by simp))); clear hb1)
      have HO : Hid (Own .u64 22 (w1.alloc (.cells #[.int .u64 (65536 * (t.size : Int) + 259), .int .u64 s, .int .u64 n] 22)) w1.heap.size (.slice (some ⟨w1.heap.size, 0, none⟩) 3 3) [65536 * (t.size : Int) + 259, s, n]) :=
        Lib.hid ⟨World.ownsRow_lit (base := w1.heap.size) w1 _ 3 (Nat.le_refl _) (by simp [maxLen]) rfl, HFW.out⟩
      have HBW : Hid (Below w1.heap.size w1 (w1.alloc (.cells #[.int .u64 (65536 * (t.size : Int) + 259), .int .u64 s, .int .u64 n] 22))) := Lib.hid ((Below.refl w1.heap.size w1).alloc (Nat.le_refl _) _)
      have HC3 := Lib.hid hc3
      have HLT := Lib.hid hlt
      clear hc0 hc1 hc2 hc3 hlt hF HFW hG hG2
      generalize (w1.alloc (.cells #[.int .u64 (65536 * (t.size : Int) + 259), .int .u64 s, .int .u64 n] 22)) = W0 at *
      generalize hbs : w1.heap.size = base at *
      have HBS := Lib.hid hbs
      clear hbs
      have HL := Lib.hid (bytesOf_length t)
      have HBD := Lib.hid (bytesOf_bd t)
      have HAT := Lib.hid (bytes_at t)
      go_loopw [5, 6] (fun v i wr => ∃ k : Nat, k ≤ 5 ∧ i = .int .i64 k ∧ Own .u64 22 wr base v ([65536 * (t.size : Int) + 259, s, n] ++ (List.range k).map (wd (bytesOf t))) ∧ Below base w1 wr) (fun _ i _ => 5 - (intOf i).toNat)
      case atStart => exact ⟨0, by omega, rfl, HO.out, HBW.out⟩
      case round =>
        obtain ⟨k, hk, rfl, hown, hbw⟩ := hrel
        have HLL : Hid (([65536 * (t.size : Int) + 259, s, n] ++ (List.range k).map (wd (bytesOf t))).length = 3 + k) := Lib.hid (by simp; omega)
        have HSS : Hid (([65536 * (t.size : Int) + 259, s, n] ++ (List.range (k + 1)).map (wd (bytesOf t))) = ([65536 * (t.size : Int) + 259, s, n] ++ (List.range k).map (wd (bytesOf t))) ++ [wd (bytesOf t) k]) := Lib.hid (by rw [List.range_succ, List.map_append, List.append_assoc]; rfl)
        have HFI : Hid (k = 5 → ([65536 * (t.size : Int) + 259, s, n] ++ (List.range k).map (wd (bytesOf t))) = encL s n true t) := Lib.hid (fun h => by subst h; rw [HE.out]; rfl)
        have hc3 : wr.cell? ⟨w.heap.size, 3, none⟩ = some (.string t) := (hbw.cell HLT.out).trans HC3.out
        generalize ([65536 * (t.size : Int) + 259, s, n] ++ (List.range k).map (wd (bytesOf t))) = l at *
        obtain ⟨A, c, rfl⟩ := hown.slice
        have HOWN := Lib.hid hown
        have HBR := Lib.hid hbw
        clear hown hbw
        by_cases hlt5 : k < 5
        · go_wp2
          go_loopw [7, 8] (fun x j wr' => ∃ m : Nat, m ≤ 8 ∧ j = .int .i64 ((m : Int) - 1) ∧ x = .int .u64 (leW ((((bytesOf t).drop (8 * k)).take 8).drop m)) ∧ wr = wr') (fun _ j _ => (intOf j + 1).toNat)
          case atStart => exact ⟨8, by omega, rfl, by rw [List.drop_of_length_le (by rw [List.length_take]; omega)]; rfl, rfl⟩
          case round =>
            obtain ⟨m, hm, rfl, rfl, rfl⟩ := hrel
            rcases m with _ | p
            · have hbdw := wd_bd HBD.out k
              have hX : leW ((((bytesOf t).drop (8 * k)).take 8).drop 0) = wd (bytesOf t) k := rfl
              rw [hX]
              have HBDW := Lib.hid hbdw
              clear hX hbdw
              generalize wd (bytesOf t) k = x at *
              have HNEW : Hid (Ints .u64 (wr.alloc (.cells #[.int .u64 x] 22)) (.slice (some ⟨wr.heap.size, 0, none⟩) 1 1) [x]) := Lib.hid (Ints.ofRow (l := [x]) (cap := 1) (heap_alloc_new wr _) (by intro q hq; rw [List.mem_singleton] at hq; subst hq; exact wf_u64 HBDW.out) (by simp) (by simp) (by intro j hj; simp at hj; subst hj; rfl))
              go_wp2_with (at_builtin; go_loud (refine wpList_grow rfl (.tmp 56) (.tmp 58) 25 rfl rowOf25 base _ l rfl (HOWN.out.alloc _) _ [x] rfl HNEW.out 8 ?c2 ⟨by simp [maxLen], by omega⟩ ?c1 ?_; (case c1 => (have := HBR.out.size; have := HBS.out; simp; omega)); (case c2 => (rw [HLL.out]; simp; omega)); intro A4 c4 w4 hown4 hb4))
              go_roundw
              case rel => exact ⟨k + 1, by omega, by go_num, by rw [HSS.out]; exact hown4, (HBR.out.alloc (by have := HBR.out.size; have := HBS.out; omega) _).trans hb4⟩
              case measure => simp [intOf]; omega
            · have HST := Lib.hid (hz_step (bytesOf t) k p (by omega))
              have ⟨y0, y1⟩ := hz_bd (bytesOf t) HBD.out k p
              by_cases hin : 8 * k + p < t.size
              · have hx := HAT.out (8 * k + p) hin
                have hst := HST.out
                rw [if_pos (by rw [HL.out]; exact hin)] at hst
                have ⟨c0, c1⟩ := at_bd HBD.out (8 * k + p) (by rw [HL.out]; exact hin)
                have HST2 := Lib.hid hst
                clear hst
                generalize leW ((((bytesOf t).drop (8 * k)).take 8).drop (p + 1)) = y at *
                generalize (bytesOf t).getD (8 * k + p) 0 = x at *
                have q0 : (0 : Int) ≤ 8 * (k : Int) + (p : Int) := by omega
                have q1 : 8 * (k : Int) + (p : Int) < (t.size : Int) := by omega
                have q2 : (8 * (k : Int) + (p : Int)).toNat = 8 * k + p := by omega
                have q3 : decide (8 * (k : Int) + (p : Int) < (t.size : Int)) = true := by simpa using q1
                have e1 : IntKind.u64.wrap (y * 256) = y * 256 := by rw [IntKind.wrap_u64]; omega
                have e2 : IntKind.u64.wrap (y * 256 + x) = y * 256 + x := by rw [IntKind.wrap_u64]; omega
                have e3 : IntKind.u64.wrap x = x := by rw [IntKind.wrap_u64]; omega
                have e4 : (((p + 1 : Nat) : Int) - 1) = (p : Int) := by omega
                rw [e4]
                go_wp2
                go_roundw
                case rel => exact ⟨p, by omega, by go_num, by rw [HST2.out], trivial⟩
                case measure => simp [intOf]
              · have hst := HST.out
                rw [if_neg (by rw [HL.out]; exact hin), Int.add_zero] at hst
                have HST2 := Lib.hid hst
                clear hst
                generalize leW ((((bytesOf t).drop (8 * k)).take 8).drop (p + 1)) = y at *
                have q3 : decide (8 * (k : Int) + (p : Int) < (t.size : Int)) = false := by simp; omega
                have e1 : IntKind.u64.wrap (y * 256) = y * 256 := by rw [IntKind.wrap_u64]; omega
                have e4 : (((p + 1 : Nat) : Int) - 1) = (p : Int) := by omega
                rw [e4]
                go_wp2
                go_roundw
                case rel => exact ⟨p, by omega, by go_num, by rw [HST2.out], trivial⟩
                case measure => simp [intOf]
        · have h5 := HFI.out (by omega)
          have hfin := HOWN.out
          rw [h5] at hfin
          have hl8 : l.length = (encL s n true t).length := by rw [h5]
          rw [hl8]
          have HFIN := Lib.hid hfin
          clear hfin h5
          go_wp2
          go_ret2
          exact ⟨_, rfl, HFIN.out.mono (by have := HLT.out; omega), HB1.out.trans (HBR.out.mono (by have := HLT.out; omega))⟩
  · have HE : Hid (encL s n g t = []) := Lib.hid (by unfold encL; rw [if_neg hok])
    have hd : decide (recOk s g t) = false := decide_eq_false hok
    rw [hd]
    go_enter Try.func16, Try.ntmps16
    go_wp2_with (go_at_call 20; refine (rright_calls _ _ _ _ _).mono ?_; rintro e w1 ⟨rfl, hb1⟩; rw [decide_eq_false hok]; have HB1 := Lib.hid hb1; clear hb1)
    go_ret2
    refine ⟨_, rfl, ?_, ?_⟩
    · rw [HE.out]; exact Own.nil_ _ _ _ _
    · exact (HB.out _).trans (HB1.out.mono (by simp))
end Go.Proofs.Ytflobafmmfigoaa
