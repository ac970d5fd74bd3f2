/- NIBBLES: the walks of the functions, the program's and the document's. -/
import Derived.Test.YtflobafmmfigoaaRows
import Derived.Test.YtflobafmmfigoaaNibMath
import Derived.Deep.RegionLaw
import Derived.Deep.AppendLies
namespace Go.Proofs.Ytflobafmmfigoaa
open Go Go.RowKit

theorem info5 : (Try.prog.info? 5).map (fun i => (i.zero, i.size, i.bytes)) = some (some (.int .u8 0), 1, 1) := by kernel_rfl
theorem nibble_calls (c : Int) (w : World) : Calls Try.prog 36 #[.int .u8 c] w fun e w' => e = .returned (.bool (decide (c < 16))) ∧ w = w' := by
  go_enter Try.func36, Try.ntmps36
  go_wp2
  go_ret
  exact ⟨rfl, rfl⟩

set_option maxHeartbeats 400000 in
theorem of_calls (s : ByteArray) (w : World) (hs : s.size ≤ 100000) :
    Calls Try.prog 25 #[.string s] w fun e w' => ∃ v, e = .returned v ∧ Own .u8 5 w' w.heap.size v (ofL (bytesOf s)) ∧ Below w.heap.size w w' := by
  obtain ⟨i0, hi0, hz0, hz1, hz2⟩ := info_parts info5
  have kc := fun (W : World) => Lib.run_convert_string_bytes (P := Try.prog) W 9 43 5 s Try.underlying9 Try.underlying43 Try.underlying5
  have hB := bytes_conv w 5 s (by omega)
  have hb0 := bytes_conv_below (Below.refl w.heap.size w) (Nat.le_refl _) 5 s
  have hl := bytesOf_length s
  have hbd := bytesOf_bd s
  generalize bytesOf s = l at *
  have HB := Lib.hid hB
  have HL := Lib.hid hl
  have HBD := Lib.hid hbd
  clear hB hl hbd
  generalize hW : Lib.bytesWorld w 5 s = W0 at *
  generalize hC : grownCap w s.size 0 5 = cap at *
  go_enter Try.func25, Try.ntmps25
  go_wp2
  have HB0 := Lib.hid hb0
  clear hW hC hb0
  go_loopw [3, 9] (fun v i wr => ∃ k : Nat, k ≤ s.size ∧ i = .int .i64 k ∧ wr.ownsRow W0.heap.size 5 1 v (2 * k) ((ofL (l.take k)).map (Value.int .u8)) ∧ Below W0.heap.size W0 wr) (fun _ i _ => s.size - (intOf i).toNat)
  case atStart => exact ⟨0, Nat.zero_le _, rfl, ⟨by simp [ofL], .inl ⟨rfl, rfl⟩⟩, Below.refl _ _⟩
  case round =>
    obtain ⟨k, hk, rfl, hown, hbw⟩ := hrel
    obtain ⟨A, c, rfl⟩ := own_slice' hown
    have HOWN := Lib.hid hown
    clear hown
    by_cases hlt : k < s.size
    · obtain ⟨b, off, hb', hcs⟩ := (HB.out.below hbw).cells (by rw [HL.out]; omega)
      simp only [Option.some.injEq, Addr.mk.injEq, and_true] at hb'
      obtain ⟨rfl, rfl⟩ := hb'
      have hcell := hcs k (by rw [HL.out]; exact hlt)
      rw [Nat.zero_add] at hcell
      have ⟨c0, c1⟩ := at_bd HBD.out k (by rw [HL.out]; exact hlt)
      have HS := Lib.hid (ofL_snoc l k (by rw [HL.out]; exact hlt))
      clear hcs
      generalize l.getD k 0 = x at *
      have hand := and15_u8 x c0 c1
      have HNEW := Lib.hid (news_of .u8 wr 5 [x / 16, x % 16])
      go_wp2_with (at_builtin; refine wpList_append_own_at (wr.alloc (.cells #[.int .u8 (x / 16), .int .u8 (x % 16)] 5)) rfl (.tmp 13) (.tmp 18) 43 rfl W0.heap.size 5 i0 _ 1 1 Try.underlying43 hi0 hz0 hz1 hz2 rfl (by omega) _ _ _ rfl (HOWN.out.alloc _) ⟨wr.heap.size, 0, none⟩ 2 2 ([x / 16, x % 16].map (Value.int .u8)) rfl rfl HNEW.out (one_cells _ _) ?c1 ?c2 ?c3 ?_; (case c1 => (simp only [maxLen]; omega)); (case c2 => omega); (case c3 => (have := hbw.size; simp; omega)); intro v2 w2 hown2 hg2 _ hat2)
      have hb1 : Below W0.heap.size W0 (wr.alloc (.cells #[.int .u8 (x / 16), .int .u8 (x % 16)] 5)) := hbw.alloc hbw.size _
      have hb2 : Below W0.heap.size W0 w2 := below_own hb1 (HOWN.out.alloc _) hb1.size hg2
      go_roundw
      case rel => exact ⟨k + 1, by omega, by go_num, by rw [HS.out, List.map_append]; exact hown2, hb2⟩
      case measure => simp [intOf]; omega
    · obtain rfl : k = s.size := by omega
      have hfin : Own .u8 5 wr w.heap.size (.slice A (2 * s.size) c) (ofL l) := by
        refine Own.mono (base := W0.heap.size) ⟨?_, fun c hc => wf_u8 (ofL_byte l HBD.out c hc)⟩ HB0.out.size
        have := HOWN.out
        rw [List.take_of_length_le (by rw [HL.out]; exact Nat.le_refl _)] at this
        rw [ofL_length, HL.out]; exact this
      have HF := Lib.hid hfin
      clear hfin
      go_wp2
      go_ret
      exact ⟨_, rfl, HF.out, below_next HB0.out hbw⟩
set_option maxHeartbeats 400000 in
theorem rof_calls (s : ByteArray) (w : World) (hs : s.size ≤ 100000) :
    Calls Try.prog 26 #[.string s] w fun e w' => ∃ v, e = .returned v ∧ Own .u8 5 w' w.heap.size v (ofL (bytesOf s)) ∧ Below w.heap.size w w' := by
  obtain ⟨i0, hi0, hz0, hz1, hz2⟩ := info_parts info5
  have HL := Lib.hid (bytesOf_length s)
  have HBD := Lib.hid (bytesOf_bd s)
  have hat : ∀ k (h : k < s.size), ((s[k]'h).toNat : Int) = (bytesOf s).getD k 0 := fun k h => by
    have hj' : k < s.data.toList.length := by simpa using h
    unfold bytesOf
    rw [List.getD_eq_getElem?_getD, List.getElem?_map, List.getElem?_eq_getElem hj']
    rfl
  have HAT := Lib.hid hat
  clear hat
  generalize bytesOf s = l at *
  go_enter Try.func26, Try.ntmps26
  go_wp2
  go_loopw [3, 4] (fun v i wr => ∃ k : Nat, k ≤ s.size ∧ i = .int .i64 k ∧ wr.ownsRow w.heap.size 5 1 v (2 * k) ((ofL (l.take k)).map (Value.int .u8)) ∧ Below w.heap.size w wr) (fun _ i _ => s.size - (intOf i).toNat)
  case atStart => exact ⟨0, Nat.zero_le _, rfl, ⟨by simp [ofL], .inl ⟨rfl, rfl⟩⟩, Below.refl _ _⟩
  case round =>
    obtain ⟨k, hk, rfl, hown, hbw⟩ := hrel
    obtain ⟨A, c, rfl⟩ := own_slice' hown
    have HOWN := Lib.hid hown
    clear hown
    by_cases hlt : k < s.size
    · have ⟨c0, c1⟩ := at_bd HBD.out k (by rw [HL.out]; exact hlt)
      have HS := Lib.hid (ofL_snoc l k (by rw [HL.out]; exact hlt))
      have ha := HAT.out k hlt
      generalize l.getD k 0 = x at *
      go_wp2
      have HRD := Lib.hid (reads_new .u8 wr 5 [x / 16, x % 16]).drew
      have e1 : IntKind.u8.wrap (x.tdiv 16) = x / 16 := by rw [IntKind.wrap_u8', Int.tdiv_eq_ediv_of_nonneg c0]; omega
      have e2 : x.tmod 16 = x % 16 := Int.tmod_eq_emod_of_nonneg c0
      go_region_law (refine step_append_any _ rfl (.tmp 11) (.tmp 20) 43 rfl w.heap.size 5 i0 _ 1 1 Try.underlying43 hi0 hz0 hz1 hz2 rfl (by omega) _ _ _ rfl (HOWN.out.alloc _) _ _ 2 2 _ rfl HRD.out (one_cells _ _) (by simp only [maxLen]; omega) (by omega) (by have := hbw.size; simp; omega) ?_; intro v2 w2 hown2 hg2 hat2)
      all_goals
        have hb1 : Below w.heap.size w ((wr.alloc (.cells #[.int .u8 (x / 16), .int .u8 (x % 16)] 5)).drew) := Below.drew (hbw.alloc hbw.size _)
        have hb2 : Below w.heap.size w w2 := below_own hb1 (HOWN.out.alloc _) hb1.size hg2
        go_wp2
        go_roundw
        case rel => exact ⟨k + 1, by omega, by go_num, by rw [HS.out, List.map_append]; exact hown2, hb2⟩
        case measure => simp [intOf]; omega
    · obtain rfl : k = s.size := by omega
      have hfin : Own .u8 5 wr w.heap.size (.slice A (2 * s.size) c) (ofL l) := by
        refine ⟨?_, fun c hc => wf_u8 (ofL_byte l HBD.out c hc)⟩
        have := HOWN.out
        rw [List.take_of_length_le (by rw [HL.out]; exact Nat.le_refl _)] at this
        rw [ofL_length, HL.out]; exact this
      have HF := Lib.hid hfin
      clear hfin
      go_wp2
      go_ret
      exact ⟨_, rfl, HF.out, hbw⟩

/-- what Key answers -/
def keyV (l : List Int) : Value := match keyL l with
  | some m => .tuple #[.string (strOfNums m), .bool true]
  | none => .tuple #[.string ⟨#[]⟩, .bool false]
theorem u8_join (a b : Int) (ha : 0 ≤ a ∧ a < 16) (hb : 0 ≤ b ∧ b < 16) : bits .or .u8 (IntKind.u8.wrap (a * 16)) b = a * 16 + b := by
  rw [IntKind.wrap_u8', Int.emod_eq_of_lt (by omega) (by omega), u8_or _ _ (by omega) (by omega) (by omega) (by omega)]
  obtain ⟨A, rfl⟩ := Int.eq_ofNat_of_zero_le ha.1
  obtain ⟨B, rfl⟩ := Int.eq_ofNat_of_zero_le hb.1
  have e : ((A : Int) * 16).toNat = 2 ^ 4 * A := by omega
  rw [e, Int.toNat_natCast, ← Nat.two_pow_add_eq_or_of_lt (by omega : B < 2 ^ 4)]
  omega
set_option maxHeartbeats 800000 in
theorem key_calls (v : Value) (l : List Int) (w : World) (hI : Ints .u8 w v l) (hl : l.length ≤ 100000) :
    Calls Try.prog 23 #[v] w fun e w' => e = .returned (keyV l) ∧ Below w.heap.size w w' := by
  obtain ⟨i0, hi0, hz0, hz1, hz2⟩ := info_parts info5
  obtain ⟨a, cap, rfl⟩ := hI.slice
  by_cases hodd : l.length % 2 = 1
  · have ho : ((l.length : Int) % 2 != 0) = true := by rw [bne_iff_ne]; omega
    have hk : keyV l = .tuple #[.string ⟨#[]⟩, .bool false] := by unfold keyV; rw [keyL_odd l hodd]
    have HK := Lib.hid hk
    clear hk hodd
    go_enter Try.func23, Try.ntmps23
    go_wp2
    go_ret2
    exact ⟨by rw [HK.out]; rfl, Below.refl _ _⟩
  · have ho : ((l.length : Int) % 2 != 0) = false := by rw [bne_eq_false_iff_eq]; omega
    have hbd := hI.bd
    have HBD := Lib.hid hbd
    have HI := Lib.hid hI
    clear hbd hI
    go_enter Try.func23, Try.ntmps23
    go_wp2
    go_loopw [4, 5] (fun v i wr => ∃ (k : Nat) (pre : List Int), 2 * k ≤ l.length ∧ i = .int .i64 (2 * k : Nat) ∧ pre.length = k ∧ Hid (keyL l = (keyL (l.drop (2 * k))).map (pre ++ ·)) ∧ Own .u8 5 wr w.heap.size v pre ∧ Below w.heap.size w wr) (fun _ i _ => l.length - (intOf i).toNat)
    case atStart => exact ⟨0, [], Nat.zero_le _, rfl, rfl, Lib.hid (by simp), Own.nil_ _ _ _ _, Below.refl _ _⟩
    case round =>
      obtain ⟨_, pre, hk, rfl, rfl, HKEY, hown, hbw⟩ := hrel
      obtain ⟨A, c, rfl⟩ := hown.slice
      have HOWN := Lib.hid hown
      clear hown
      by_cases hlt : 2 * pre.length < l.length
      · obtain ⟨b, off, rfl, hcs⟩ := (HI.out.below hbw).cells (by omega)
        have hc1 := hcs (2 * pre.length) hlt
        have hc2 := hcs (2 * pre.length + 1) (by omega)
        have ⟨x0, x1⟩ := at_bd HBD.out (2 * pre.length) hlt
        have ⟨y0, y1⟩ := at_bd HBD.out (2 * pre.length + 1) (by omega)
        have HST := Lib.hid (keyL_step l pre.length pre (by omega) HKEY.out)
        clear hcs HKEY
        generalize l.getD (2 * pre.length) 0 = x at *
        generalize l.getD (2 * pre.length + 1) 0 = y at *
        by_cases hx : x < 16
        · by_cases hy : y < 16
          · have hx' : decide (x < 16) = true := by simpa using hx
            have hy' : decide (y < 16) = true := by simpa using hy
            have HN := Lib.hid (HST.out.1 ⟨hx, hy⟩)
            go_wp2_with (go_at_call 36; refine (nibble_calls _ _).mono ?_; rintro e w' ⟨rfl, rfl⟩)
            have e1 := u8_join x y ⟨x0, hx⟩ ⟨y0, hy⟩
            have e2 : IntKind.i64.wrap (2 * (pre.length : Int) + 1) = 2 * (pre.length : Int) + 1 := IntWalk.i64_in _ (by omega)
            have HRD := Lib.hid (reads_new .u8 wr 5 [x * 16 + y]).drew
            have e3 : (0 : Int) ≤ 2 * (pre.length : Int) := by omega
            have e4 : (2 * (pre.length : Int)).toNat = 2 * pre.length := by omega
            have e5 : (0 : Int) ≤ 2 * (pre.length : Int) + 1 := by omega
            have e6 : (2 * (pre.length : Int) + 1).toNat = 2 * pre.length + 1 := by omega
            have e7 : 2 * (pre.length : Int) + 1 < (l.length : Int) := by omega
            have e8 : 2 * (pre.length : Int) < (l.length : Int) := by omega
            have cc1 : pre.length + 1 ≤ maxLen := by simp only [maxLen]; omega
            have cc2 : (pre.length + 1) * 1 ≤ 140737488355328 := by omega
            have cc3 : w.heap.size ≤ wr.heap.size + 1 := by have := hbw.size; omega
            go_region_law (refine step_append_any _ rfl (.tmp 31) (.tmp 43) 43 rfl w.heap.size 5 i0 _ 1 1 Try.underlying43 hi0 hz0 hz1 hz2 rfl (by omega) _ _ _ rfl (HOWN.out.1.alloc _) _ _ 1 1 _ rfl HRD.out (one_cells _ _) cc1 cc2 (by simpa using cc3) ?_; intro v2 w2 hown2 hg2 hat2)
            all_goals
              clear e1 e2 e3 e4 e5 e6 e7 e8
              have hb1 : Below w.heap.size w ((wr.alloc (.cells #[.int .u8 (x * 16 + y)] 5)).drew) := Below.drew (hbw.alloc hbw.size _)
              have hb2 : Below w.heap.size w w2 := below_own hb1 (HOWN.out.1.alloc _) hb1.size hg2
              go_wp2
              go_roundw
              case rel =>
                refine ⟨pre.length + 1, pre ++ [x * 16 + y], by omega, by simp; omega, by simp, HN, ⟨?_, ?_⟩, hb2⟩
                · rw [List.length_append, List.map_append]; exact hown2
                · intro q hq
                  rcases List.mem_append.1 hq with hq | hq
                  · exact HOWN.out.2 q hq
                  · rw [List.mem_singleton] at hq; subst hq; exact wf_u8 (by omega)
              case measure => simp [intOf]; omega
          · have hx' : decide (x < 16) = true := by simpa using hx
            have hy' : decide (y < 16) = false := by simpa using hy
            have hk : keyV l = .tuple #[.string ⟨#[]⟩, .bool false] := by unfold keyV; rw [HST.out.2 (fun h => hy h.2)]
            have HK := Lib.hid hk
            clear hk
            go_wp2_with (go_at_call 36; refine (nibble_calls _ _).mono ?_; rintro e w' ⟨rfl, rfl⟩)
            go_ret2
            exact ⟨by rw [HK.out]; rfl, hbw⟩
        · have hx' : decide (x < 16) = false := by simpa using hx
          have hk : keyV l = .tuple #[.string ⟨#[]⟩, .bool false] := by unfold keyV; rw [HST.out.2 (fun h => hx h.1)]
          have HK := Lib.hid hk
          clear hk
          go_wp2_with (go_at_call 36; refine (nibble_calls _ _).mono ?_; rintro e w' ⟨rfl, rfl⟩)
          go_ret2
          exact ⟨by rw [HK.out]; rfl, hbw⟩
      · have hkl : keyL l = some pre := by rw [HKEY.out, List.drop_eq_nil_of_le (by omega)]; simp [keyL]
        have hk : keyV l = .tuple #[.string (strOfNums pre), .bool true] := by unfold keyV; rw [hkl]
        have HK := Lib.hid hk
        have hI2 := HOWN.out.ints (by omega)
        have hcv := fun dst hd => hI2.string (P := Try.prog) (src := 43) (e := 5) (dst := dst) Try.underlying43 Try.underlying5 hd
        have hcv9 := hcv 9 Try.underlying9
        clear hk hkl hI2 hcv
        go_wp2
        go_ret2
        exact ⟨by rw [HK.out]; rfl, hbw⟩
end Go.Proofs.Ytflobafmmfigoaa
