/- CrcTurned: THE WALK. -/
import Derived.Test.YtmhopnopdloedaaDoorSums
import Derived.Test.YtmhopnopdloedaaDoorFlip
import Derived.Test.YtmhopnopdloedaaDoorWords
namespace Go.Proofs.YtmhopnopdloedaaDoor
open Go Go.RowKit

theorem Bytes.reads {w : World} {a : Option Addr} {n cap : Nat} {l : List Int} (h : Bytes w (.slice a n cap) l) : Reads w w.heap.size 1 a l.length (l.map (Value.int .u8)) := by
  refine ⟨by simp, fun hn => ?_⟩
  obtain ⟨b, off, rfl, _, hc⟩ := h.row 0 hn
  refine ⟨_, rfl, World.block_lt_of_cell? w _ hc, fun j u hj => ?_⟩
  have hlt : j < l.length := by
    rcases Nat.lt_or_ge j l.length with h' | h'
    · exact h'
    · simp [h'] at hj
  obtain ⟨b', off', hb, _, hcj⟩ := h.row j hlt
  simp only [Option.some.injEq, Addr.mk.injEq, and_true] at hb
  obtain ⟨rfl, rfl⟩ := hb
  rw [Go.WideShapes.add_plain, hcj]
  simp [hlt] at hj ⊢
  exact hj
theorem info5 : (Tryd.prog.info? 5).map (fun i => (i.zero, i.size, i.bytes)) = some (some (.int .u8 0), 1, 1) := by kernel_rfl

theorem row_of_own {w : World} {base n : Nat} {v : Value} {l : List Int} (h : w.ownsRow base 5 1 v n (l.map (Value.int .u8))) (hn : 0 < n) :
    ∃ g m f, v = .slice (some ⟨g, 0, none⟩) n m ∧ base ≤ g ∧ n ≤ m ∧ w.rowIs g 5 m f ∧ ∀ j, j < n → f j = .int .u8 (l.getD j 0) := by
  obtain ⟨hl, ⟨rfl, h0⟩ | ⟨g, cap, cur, rfl, hb, hg, hnc, _, hsz, htk⟩⟩ := h
  · omega
  · refine ⟨g, cap, fun j => cur.getD j undef, rfl, hb, hnc, ⟨cur, hg, by omega, fun i hi => ?_⟩, fun j hj => ?_⟩
    · rw [Array.getElem?_eq_getElem (by omega)]; simp [show i < cur.size from by omega]
    · have e := congrArg (fun x : List Value => x[j]?) htk
      simp only [List.length_map, Nat.mul_one] at hl e
      rw [List.getElem?_take_of_lt hj] at e
      have hj' : j < l.length := by omega
      simp [hj'] at e
      simp [e, hj']
set_option maxHeartbeats 800000 in
theorem turned_main (vb : Value) (l : List Int) (at' by' : Int) (w : World) (hT : Tab w) (hB : Bytes w vb l) (ha : 0 ≤ at' ∧ at' ≤ 65535) (hby : 0 ≤ by' ∧ by' ≤ 4294967295)
    (h1 : l.length ≤ 3000) (h2 : 4 ≤ l.length) (h3 : ¬ by' = 0) :
    Calls Tryd.prog 5 #[vb, .int .u16 at', .int .u32 by'] w fun e w' => e = .returned (.bool true) ∧ Below w.heap.size w w' := by
  obtain ⟨aa, ca, rfl⟩ := hB.slice
  obtain ⟨i0, hi0, hz0, hz1, hz2⟩ := info_parts info5
  have t1 : decide ((3000 : Int) < (l.length : Int)) = false := by simp; omega
  have t2 : decide (l.length < 4) = false := by simp; omega
  have t3 : (by' == 0) = false := by simpa using h3
  obtain ⟨hb0, hb1⟩ := hby
  obtain ⟨ha0, ha1⟩ := ha
  have hone : ∀ u ∈ l.map (Value.int .u8), u.oneCell' = true := by intro u hu; obtain ⟨x, _, rfl⟩ := List.mem_map.1 hu; rfl
  have HONE := Lib.hid hone
  clear hone
  go_enter Tryd.func5, Tryd.ntmps5
  go_upto_region 5 with (go_at_call 9; refine (alive_at hT).mono ?_; rintro e w1 ⟨rfl, hb⟩)
  have hr := (hB.below hb).reads
  have HR0 := Lib.hid hr
  clear hr
  go_upto_region 6 with (at_builtin; go_loud (refine wpList_append_any _ rfl (.const (.slice none 0 0)) (.tmp 24) 23 rfl w1.heap.size 5 i0 _ 1 1 Tryd.underlying23 hi0 hz0 hz1 hz2 rfl (by omega) (.slice none 0 0) 0 [] rfl ⟨by simp, .inl ⟨rfl, rfl⟩⟩ w1.heap.size aa l.length ca _ rfl HR0.out HONE.out ?c1 ?c2 ?c3 ?_); (case c1 => (simp only [maxLen]; omega)); (case c2 => omega); (case c3 => exact Nat.le_refl _); intro v1 w2 hown hg hat)
  obtain ⟨g, m, f, rfl, hgb, hmn, hrow, hf⟩ := row_of_own (by simpa using hown) (by omega)
  have hbw : Below w.heap.size w w2 := hb.grown hg hb.size (by simp [Value.ownBlock])
  have hgw : w.heap.size ≤ g := Nat.le_trans hb.size hgb
  clear hown hg hat HR0 hb hgb
  have HROW := Lib.hid hrow
  have HF := Lib.hid hf
  clear hrow hf
  clear w1
  have e8 : Hid (0 < 8 * (l.length : Int) - 31) := by show (0 : Int) < _; omega
  go_wp2
  obtain ⟨p, hp, hp2⟩ : ∃ p : Nat, at' % (8 * (l.length : Int) - 31) = (p : Int) ∧ p + 32 ≤ 8 * l.length := by
    have h0 := Int.emod_nonneg at' (b := 8 * (l.length : Int) - 31) (by omega)
    have h1 := Int.emod_lt_of_pos at' (b := 8 * (l.length : Int) - 31) (by omega)
    exact ⟨(at' % (8 * (l.length : Int) - 31)).toNat, by omega, by omega⟩
  rw [hp]
  clear hp e8
  go_loopw [33] (fun i wr => ∃ k : Nat, k ≤ 32 ∧ i = .int .i64 k ∧ (∃ f, wr.rowIs g 5 m f ∧ ∀ j, j < l.length → f j = .int .u8 ((flips l p by' k).getD j 0)) ∧ Below w.heap.size w wr) (fun i _ => 32 - (intOf i).toNat)
  case atStart => exact ⟨0, Nat.zero_le _, rfl, ⟨f, HROW.out, HF.out⟩, hbw⟩
  case round =>
    clear HROW HF hbw
    obtain ⟨k, hk, rfl, ⟨f, hr, hf⟩, hbw⟩ := hrel
    have HR := Lib.hid hr
    have HF := Lib.hid hf
    clear hr hf
    by_cases hlt : k < 32
    · have j0 : 0 ≤ ((p : Int) + k) / 8 := by omega
      have j1 : ((p : Int) + k) / 8 < l.length := by omega
      have t0 : 0 ≤ ((p : Int) + k) % 8 := by omega
      have t9 : ((p : Int) + k) % 8 < 8 := by omega
      have hcl : wr.cell? ⟨g, (p + k) / 8, none⟩ = some (f ((p + k) / 8)) := HR.out.cell (by omega)
      have hfz := HR.out.frozen ((p + k) / 8)
      rw [HF.out _ (by omega)] at hcl
      generalize hx : (flips l p by' k).getD ((p + k) / 8) 0 = x at hcl
      have HX := Lib.hid hx
      clear hx
      by_cases hbit : (bits .and .u32 (by' / 2 ^ k) 1 == 1) = true
      · have hfl : flips l p by' (k + 1) = (flips l p by' k).set ((p + k) / 8) (bits .xor .u8 x (2 ^ ((p + k) % 8) % 256)) := by
          rw [← HX.out]; simp only [flips]; rw [if_pos (show bitOn by' k = true from hbit)]
        have HFL := Lib.hid hfl
        clear hfl
        go_wp2
        go_region
        go_wp2
        go_roundw
        case rel =>
          refine ⟨k + 1, by omega, by go_num, ⟨_, (HR.out.set ((p + k) / 8) _).drew, fun j hj => ?_⟩, Below.drew (hbw.setCell (p := ⟨g, (p + k) / 8, none⟩) hgw _)⟩
          rw [HFL.out, HF.out j hj]
          have hlen := flips_length l p by' k
          by_cases e : j = (p + k) / 8
          · subst e; rw [if_pos rfl]; simp [hlen, hj]
          · rw [if_neg e]; simp [List.getD, Ne.symm e]
        case measure => simp [intOf]; omega
      · have hbit' : (bits .and .u32 (by' / 2 ^ k) 1 == 1) = false := by simpa using hbit
        have hfl : flips l p by' (k + 1) = flips l p by' k := by simp only [flips]; rw [if_neg (show ¬ bitOn by' k = true from hbit)]
        have HFL := Lib.hid hfl
        clear hfl hbit
        go_wp2
        go_roundw
        case rel => exact ⟨k + 1, by omega, by go_num, ⟨_, HR.out, fun j hj => by rw [HFL.out]; exact HF.out j hj⟩, hbw⟩
        case measure => simp [intOf]; omega
    · obtain rfl : k = 32 := by omega
      have hlen := flips_length l p by' 32
      have hx : Bytes wr (.slice (some ⟨g, 0, none⟩) l.length m) (flips l p by' 32) := by
        refine ⟨flips_bd l p by' 32 hB.1, by omega, .inr ⟨g, 0, m, by rw [hlen], by omega, fun j hj => ?_⟩⟩
        rw [Nat.zero_add, HR.out.cell (by omega), HF.out j (by omega)]
      have c1 := Lib.hid (sum_calls _ _ _ (hT.below hbw) (hB.below hbw))
      have c2 := Lib.hid (sum_calls _ _ _ (hT.below hbw) hx)
      have key : (next 0 l != next 0 (flips l p by' 32)) = true := by
        rw [bne_iff_ne]
        exact flips_differ l p by' hb0 hb1 h3 hB.1 hp2
      have KEY := Lib.hid key
      clear key hx hlen
      generalize next 0 (flips l p by' 32) = xf at *
      generalize next 0 l = xl at *
      go_wp2_with fail
      refine c1.out.mono ?_
      rintro e w' ⟨rfl, rfl⟩
      go_wp2_with fail
      refine c2.out.mono ?_
      rintro e w' ⟨rfl, rfl⟩
      have key := KEY.out
      go_wp2
      go_ret
      exact ⟨rfl, hbw⟩
set_option maxHeartbeats 800000 in
theorem turned_out (vb : Value) (l : List Int) (at' by' : Int) (w : World) (hT : Tab w) (hB : Bytes w vb l) (_hby : 0 ≤ by' ∧ by' ≤ 4294967295)
    (h : 3000 < l.length ∨ (l.length ≤ 3000 ∧ l.length < 4) ∨ (l.length ≤ 3000 ∧ 4 ≤ l.length ∧ by' = 0)) :
    Calls Tryd.prog 5 #[vb, .int .u16 at', .int .u32 by'] w fun e w' => e = .returned (.bool true) ∧ Below w.heap.size w w' := by
  obtain ⟨aa, ca, rfl⟩ := hB.slice
  rcases h with h | ⟨h1, h2⟩ | ⟨h1, h2, rfl⟩
  · have t1 : decide ((3000 : Int) < (l.length : Int)) = true := by simp; omega
    go_enter Tryd.func5, Tryd.ntmps5
    go_wp2_with (go_at_call 9; refine (alive_at hT).mono ?_; rintro e w1 ⟨rfl, hb⟩)
    go_ret
    exact ⟨rfl, hb⟩
  · have t1 : decide ((3000 : Int) < (l.length : Int)) = false := by simp; omega
    have t2 : decide (l.length < 4) = true := by simp; omega
    go_enter Tryd.func5, Tryd.ntmps5
    go_wp2_with (go_at_call 9; refine (alive_at hT).mono ?_; rintro e w1 ⟨rfl, hb⟩)
    go_ret
    exact ⟨rfl, hb⟩
  · have t1 : decide ((3000 : Int) < (l.length : Int)) = false := by simp; omega
    have t2 : decide (l.length < 4) = false := by simp; omega
    go_enter Tryd.func5, Tryd.ntmps5
    go_wp2_with (go_at_call 9; refine (alive_at hT).mono ?_; rintro e w1 ⟨rfl, hb⟩)
    go_ret
    exact ⟨rfl, hb⟩
theorem turned_walk' (vb : Value) (l : List Int) {w : World} (hB : Bytes w vb l) (at' : Int) (ha : (Lit.int .u16 at').wf = true) (by' : Int) (hby : (Lit.int .u32 by').wf = true) (hT : Tab w) :
    Calls Tryd.prog 5 #[vb, .int .u16 at', .int .u32 by'] w fun e w' => e = .returned (.bool true) ∧ Below w.heap.size w w' := by
  by_cases h1 : l.length ≤ 3000 ∧ 4 ≤ l.length ∧ ¬ by' = 0
  · exact turned_main vb l at' by' w hT hB (bd_u16 ha) (bd_u32 hby) h1.1 h1.2.1 h1.2.2
  · exact turned_out vb l at' by' w hT hB (bd_u32 hby) (by omega)
end Go.Proofs.YtmhopnopdloedaaDoor
