/- CrcPieces: THE WALK. -/
import Derived.Test.YtmhopnopdloedaaDoorTurned
namespace Go.Proofs.YtmhopnopdloedaaDoor
open Go Go.RowKit

/-- a slice of slices of bytes reads as lists -/
def Pieces (w : World) (v : Value) (ls : List (List Int)) : Prop :=
  ls.length ≤ 140737488351232 ∧
  ((ls = [] ∧ ∃ a cap, v = .slice a 0 cap) ∨ ∃ b off cap, v = .slice (some ⟨b, off, none⟩) ls.length cap ∧ ∀ j, j < ls.length → ∃ u, w.cell? ⟨b, off + j, none⟩ = some u ∧ Bytes w u (ls.getD j []))
theorem inv_inv (x : Int) (h0 : 0 ≤ x) (h1 : x ≤ 4294967295) : inv (inv x) = x := by
  have := next_nil x h0 h1; exact this
theorem run_bd (s : Int) (l : List Int) (h : ∀ c ∈ l, 0 ≤ c ∧ c ≤ 255) : 0 ≤ run (inv s) l ∧ run (inv s) l ≤ 4294967295 := by
  rw [run_asW _ _ (inv_bd s).1 (inv_bd s).2 h]; exact toI_bounds _
theorem next_app (s : Int) (a b : List Int) (h : ∀ c ∈ a, 0 ≤ c ∧ c ≤ 255) : next s (a ++ b) = next (next s a) b := by
  unfold next
  rw [inv_inv _ (run_bd s a h).1 (run_bd s a h).2]
  unfold run; rw [List.foldl_append]
theorem own_bytes {w : World} {base n : Nat} {v : Value} {l : List Int} (h : w.ownsRow base 5 1 v n (l.map (Value.int .u8))) (hb : ∀ c ∈ l, 0 ≤ c ∧ c ≤ 255) (hl : l.length ≤ 140737488351232) : Bytes w v l := by
  have hn : l.length = n := by have := h.1; simpa using this
  rcases Nat.eq_zero_or_pos n with h0 | h0
  · obtain ⟨_, ⟨rfl, _⟩ | ⟨g, cap, cur, rfl, _⟩⟩ := h
    · exact ⟨hb, hl, .inl ⟨List.eq_nil_of_length_eq_zero (by omega), _, _, rfl⟩⟩
    · subst h0; exact ⟨hb, hl, .inl ⟨List.eq_nil_of_length_eq_zero (by omega), _, _, rfl⟩⟩
  · obtain ⟨g, m, f, rfl, _, hmn, hr, hf⟩ := row_of_own h h0
    subst hn
    exact ⟨hb, hl, .inr ⟨g, 0, m, rfl, hmn, fun j hj => by rw [Nat.zero_add, hr.cell (by omega), hf j hj]⟩⟩
/-- the first pieces, one behind the other -/
def joined (ls : List (List Int)) (k : Nat) : List Int := (ls.take k).flatten
theorem joined_snoc (ls : List (List Int)) (k : Nat) (h : k < ls.length) : joined ls (k + 1) = joined ls k ++ ls.getD k [] := by
  unfold joined
  rw [List.take_succ_eq_append_getElem h, List.flatten_append]; simp [h]
theorem own_slice' {w : World} {base n : Nat} {e : TypeId} {size : Nat} {v : Value} {xs : List Value} (h : w.ownsRow base e size v n xs) : ∃ A c, v = .slice A n c := by
  obtain ⟨_, ⟨rfl, rfl⟩ | ⟨g, cap, cur, rfl, _⟩⟩ := h
  · exact ⟨_, _, rfl⟩
  · exact ⟨_, _, rfl⟩

set_option maxHeartbeats 800000 in
theorem pieces_row (b off cap : Nat) (ls : List (List Int)) (w : World) (hT : Tab w) (hm : ls.length ≤ 140737488351232)
    (hP : ∀ j, j < ls.length → ∃ u, w.cell? ⟨b, off + j, none⟩ = some u ∧ Bytes w u (ls.getD j [])) :
    Calls Tryd.prog 4 #[.slice (some ⟨b, off, none⟩) ls.length cap] w fun e w' => e = .returned (.bool true) ∧ Below w.heap.size w w' := by
  obtain ⟨i0, hi0, hz0, hz1, hz2⟩ := info_parts info5
  have HP := Lib.hid hP
  have HT := Lib.hid hT
  clear hP hT
  go_enter Tryd.func4, Tryd.ntmps4
  go_wp2_with (go_at_call 9; refine (alive_at HT.out).mono ?_; rintro e w1 ⟨rfl, hb1⟩)
  go_loopw [3, 4, 11] (fun v x i wr => ∃ k : Nat, k ≤ ls.length ∧ i = .int .i64 k ∧ x = .int .u32 (next 0 (joined ls k)) ∧ (joined ls k).length ≤ 3000 ∧ (∀ c ∈ joined ls k, 0 ≤ c ∧ c ≤ 255) ∧ wr.ownsRow w.heap.size 5 1 v (joined ls k).length ((joined ls k).map (Value.int .u8)) ∧ Below w.heap.size w wr) (fun _ _ i _ => ls.length - (intOf i).toNat)
  case atStart => exact ⟨0, Nat.zero_le _, rfl, by rw [show joined ls 0 = [] from rfl, next_nil 0 (by omega) (by omega)], by simp [joined], by simp [joined], ⟨by simp [joined], .inl ⟨rfl, by simp [joined]⟩⟩, hb1⟩
  case round =>
    obtain ⟨k, hk, rfl, rfl, hl, hbd, hown, hbw⟩ := hrel
    obtain ⟨A, c, rfl⟩ := own_slice' hown
    have HBD := Lib.hid hbd
    clear hbd
    by_cases hlt : k < ls.length
    · obtain ⟨u, hu, hB⟩ := HP.out k hlt
      have hu' : wr.cell? ⟨b, off + k, none⟩ = some u := (hbw.cell (World.block_lt_of_cell? w _ hu)).trans hu
      clear hu
      have hB' := hB.below hbw
      obtain ⟨ap, cp, rfl⟩ := hB.slice
      have hbig := hB.2.1
      have HJ := Lib.hid (joined_snoc ls k hlt)
      have HB := Lib.hid hB'
      clear hB hB'
      generalize ls.getD k [] = piece at *
      by_cases h3 : (3000 : Int) < ((joined ls k).length : Int) + (piece.length : Int)
      · go_wp2
        go_ret
        exact ⟨rfl, hbw⟩
      · have hj' : (joined ls (k + 1)).length ≤ 3000 := by rw [HJ.out, List.length_append]; omega
        have hbd' : ∀ c ∈ joined ls (k + 1), 0 ≤ c ∧ c ≤ 255 := by
          rw [HJ.out]; intro c hc
          rcases List.mem_append.1 hc with h | h
          · exact HBD.out c h
          · exact HB.out.1 c h
        have HBD' := Lib.hid hbd'
        have hnx : next (next 0 (joined ls k)) piece = next 0 (joined ls (k + 1)) := by rw [HJ.out, next_app _ _ _ HBD.out]
        have HNX := Lib.hid hnx
        have c1 := next_calls (next 0 (joined ls k)) _ piece _ (HT.out.below hbw) HB.out
        rw [hnx] at c1
        have C1 := Lib.hid c1
        have hone : Hid (∀ u ∈ piece.map (Value.int .u8), u.oneCell' = true) := fun u hu => by obtain ⟨x, _, rfl⟩ := List.mem_map.1 hu; rfl
        have HOWN := Lib.hid hown
        have HRD := Lib.hid HB.out.reads
        clear hbd' hnx c1 hown
        generalize next 0 (joined ls k) = x at *
        go_wp2_with (first | (go_at_call 10; refine C1.out.mono ?_; rintro e w' ⟨rfl, rfl⟩) | (at_builtin; refine wpList_append_any _ rfl (.tmp 24) (.tmp 25) 23 rfl w.heap.size 5 i0 _ 1 1 Tryd.underlying23 hi0 hz0 hz1 hz2 rfl (by omega) _ _ _ rfl HOWN.out wr.heap.size ap piece.length cp _ rfl HRD.out hone.out ?c1 ?c2 ?c3 ?_; (case c1 => (simp only [maxLen]; omega)); (case c2 => omega); (case c3 => exact hbw.size); intro v2 w2 hown2 hg2 hat2))
        have hbw2 : Below w.heap.size w w2 := hbw.grown hg2 hbw.size (fun q hq => (World.ownsRow.lt HOWN.out q hq).1)
        have hown3 : w2.ownsRow w.heap.size 5 1 v2 (joined ls (k + 1)).length ((joined ls (k + 1)).map (Value.int .u8)) := by
          rw [HJ.out, List.length_append, List.map_append]; exact hown2
        have c2 := Lib.hid (sum_calls v2 _ w2 (HT.out.below hbw2) (own_bytes hown3 HBD'.out (by omega)))
        refine c2.out.mono ?_
        rintro e w' ⟨rfl, rfl⟩
        clear hown2 hg2 hat2
        generalize hy : next 0 (joined ls (k + 1)) = y at *
        have HY := Lib.hid hy
        clear hy
        have HOWN3 := Lib.hid hown3
        clear hown3
        go_wp2
        go_roundw
        case rel => exact ⟨k + 1, by omega, by go_num, by rw [HY.out], hj', HBD'.out, HOWN3.out, hbw2⟩
        case measure => simp [intOf]; omega
    · go_wp2
      go_ret
      exact ⟨rfl, hbw⟩
theorem pieces_empty (a : Option Addr) (cap : Nat) (w : World) (hT : Tab w) :
    Calls Tryd.prog 4 #[.slice a 0 cap] w fun e w' => e = .returned (.bool true) ∧ Below w.heap.size w w' := by
  go_enter Tryd.func4, Tryd.ntmps4
  go_wp2_with (go_at_call 9; refine (alive_at hT).mono ?_; rintro e w1 ⟨rfl, hb1⟩)
  go_loopw [11] (fun i wr => i = .int .i64 0 ∧ Below w.heap.size w wr) (fun _ _ => 0)
  case atStart => exact ⟨rfl, hb1⟩
  case round =>
    obtain ⟨rfl, hbw⟩ := hrel
    go_wp2
    go_ret
    exact ⟨rfl, hbw⟩
theorem pieces_walk' (v : Value) (ls : List (List Int)) {w : World} (hP : Pieces w v ls) (hT : Tab w) :
    Calls Tryd.prog 4 #[v] w fun e w' => e = .returned (.bool true) ∧ Below w.heap.size w w' := by
  obtain ⟨hm, ⟨rfl, a, cap, rfl⟩ | ⟨b, off, cap, rfl, hc⟩⟩ := hP
  · exact pieces_empty a cap w hT
  · exact pieces_row b off cap ls w hT hm hc
end Go.Proofs.YtmhopnopdloedaaDoor
