/- MODEL: pairs, with a set over them: the document's way. -/
import Derived.Test.YtdeecdebhigafaaMdlPut
import Derived.Test.YtdeecdebhigafaaHeld
namespace Go.Proofs.Ytdeecdebhigafaa
open Go Go.RowKit
set_option linter.unusedSimpArgs false

def keepL (s : List Wr) (l : List Pr) : List Pr := l.filter fun x => (getS s x.key).isNone
def putW (acc : List Pr) (y : Wr) : List Pr := if y.gone then acc else putAux false acc ⟨y.key, y.text⟩
def overR (l : List Pr) (s : List Wr) : List Pr := s.foldl putW (keepL s l)
theorem putAux_len (p : Pr) : ∀ (l : List Pr) (d : Bool), (putAux d l p).length ≤ l.length + if d then 0 else 1
  | [], d => by cases d <;> simp [putAux]
  | x :: l, d => by
    have ih := putAux_len p l (d || !decide (kb x.key < kb p.key))
    unfold putAux
    rw [List.length_append, List.length_append, List.length_cons]
    by_cases h1 : kb x.key < kb p.key <;> by_cases h2 : kb x.key = kb p.key <;> cases d <;> simp [h1, h2] at ih ⊢ <;> omega
theorem putW_len (acc : List Pr) (y : Wr) : (putW acc y).length ≤ acc.length + 1 := by
  unfold putW
  split
  · omega
  · have := putAux_len ⟨y.key, y.text⟩ acc false
    simpa using this
set_option maxHeartbeats 1600000 in
theorem rover_calls (v u : Value) (l : List Pr) (s : List Wr) (w : World) (hI : Rows EP w v l) (hJ : Rows EW w u s) (hN : l.length + s.length ≤ 20000) :
    Calls Try.prog 40 #[v, u] w fun e w' => ∃ v', e = .returned v' ∧ OwnR EP 79 w' w.heap.size v' (overR l s) ∧ (overR l s).length ≤ l.length + s.length ∧ Below w.heap.size w w' := by
  obtain ⟨a, cap, rfl⟩ := hI.slice
  obtain ⟨a', cap', rfl⟩ := hJ.slice
  have HI := Lib.hid hI
  have HJ := Lib.hid hJ
  have hcap := hI.cap_le
  have hcap' := hJ.cap_le
  have hle := hN
  clear hI hJ
  go_enter Try.func40, Try.ntmps40
  go_wp2
  go_loopw [5, 6, 7, 8] (fun ov i _ _ wr => ∃ k : Nat, k ≤ l.length ∧ i = .int .i64 k ∧ OwnR EP 79 wr w.heap.size ov (keepL s (l.take k)) ∧ Below w.heap.size w wr) (fun _ i _ _ _ => l.length - (intOf i).toNat)
  case atStart => exact ⟨0, Nat.zero_le _, rfl, OwnR.nil_ _ _ _ _, Below.refl _ _⟩
  case round =>
    obtain ⟨k, hk, rfl, hown, hbw⟩ := hrel
    have HB := Lib.hid hbw
    have HLL : Hid ((keepL s (l.take k)).length ≤ k) := Lib.hid (Nat.le_trans (List.length_filter_le _ _) (by rw [List.length_take]; omega))
    by_cases hlt : k < l.length
    · obtain ⟨x, hx⟩ : ∃ x, l[k]? = some x := ⟨_, List.getElem?_eq_getElem hlt⟩
      have HT : Hid (keepL s (l.take (k + 1)) = keepL s (l.take k) ++ if (getS s x.key).isSome then [] else [x]) := Lib.hid (by
        unfold keepL
        rw [List.take_add_one, hx, List.filter_append]
        cases h : getS s x.key <;> simp [h])
      obtain ⟨b, off, rfl, hz, c0, c1⟩ := HI.out.p2 hx
      have C0 := Lib.hid c0
      have C1 := Lib.hid c1
      have hc0 := (hbw.cell (World.block_lt_of_cell? w _ C0.out)).trans C0.out
      clear hz hx c0 c1 hbw
      generalize keepL s (l.take k) = L at *
      obtain ⟨oa, oc, rfl⟩ := hown.slice
      have HOWN := Lib.hid hown
      clear hown
      go_wp2_with fail
      refine (rget_calls _ _ _ _ (HJ.out.below HB.out)).mono ?_
      rintro e w1 ⟨rfl, hb⟩
      have HO1 := Lib.hid (HOWN.out.below hb)
      have HB1 := Lib.hid (HB.out.trans (hb.mono HB.out.size))
      clear hb hc0
      obtain ⟨kk, tt, gg, hv⟩ := @getV_some (getS s x.key)
      rw [hv]
      clear hv
      cases hs : (getS s x.key).isSome
      · rw [hs] at HT
        have HT' : Hid (keepL s (l.take (k + 1)) = L ++ [x]) := Lib.hid (by have := HT.out; simpa using this)
        clear hs HT
        have hb2 := HB1.out.alloc HB1.out.size (.cells #[.string kk, .string tt, .bool gg] 52)
        have hc0 := (hb2.cell (World.block_lt_of_cell? w _ C0.out)).trans C0.out
        have hc1 := (hb2.cell (World.block_lt_of_cell? w _ C1.out)).trans C1.out
        have HB2 := Lib.hid hb2
        have HO2 := Lib.hid (HO1.out.alloc (.cells #[.string kk, .string tt, .bool gg] 52))
        clear hb2
        have HNEW : Hid (Rows EP ((w1.alloc (.cells #[.string kk, .string tt, .bool gg] 52)).alloc (.cells #[.string x.key, .string x.text] 79)) (.slice (some ⟨w1.heap.size + 1, 0, none⟩) 1 1) [x]) := Lib.hid (by have e := rows_new EP (w1.alloc (.cells #[.string kk, .string tt, .bool gg] 52)) 79 x; rw [World.size_alloc] at e; exact e)
        go_wp2_with (at_builtin; refine wpList_growR rfl (.tmp 28) (.tmp 33) 46 rfl rowRP w.heap.size _ L rfl (HO2.out.alloc _) _ [x] rfl HNEW.out 200000 ?c2 ⟨by simp [maxLen], by omega⟩ ?c1 ?_; (case c1 => (have := HB2.out.size; simp at this ⊢; omega)); (case c2 => (have := HLL.out; simp; omega)); intro A4 c4 w4 hown4 hb4; have HO4 := Lib.hid hown4; have HB4 := Lib.hid ((HB2.out.alloc HB2.out.size _).trans hb4); clear hown4 hb4)
        go_roundw
        case rel => exact ⟨k + 1, hlt, by go_num, by rw [HT'.out]; exact HO4.out, HB4.out⟩
        case measure => simp [intOf]; omega
      · rw [hs] at HT
        have HT' : Hid (keepL s (l.take (k + 1)) = L) := Lib.hid (by have := HT.out; simpa using this)
        clear hs HT
        go_wp2
        go_roundw
        case rel => exact ⟨k + 1, hlt, by go_num, by rw [HT'.out]; exact HO1.out.alloc _, HB1.out.alloc HB1.out.size _⟩
        case measure => simp [intOf]; omega
    · obtain rfl : k = l.length := by omega
      rw [List.take_length] at hown HLL
      have HOWN := Lib.hid hown
      clear hlt hk hown hbw
      obtain ⟨oa, oc, e⟩ := HOWN.out.slice
      subst e
      go_wp2
      go_loopw [5, 9] (fun ov i wr => ∃ k : Nat, k ≤ s.length ∧ i = .int .i64 k ∧ OwnR EP 79 wr w.heap.size ov ((s.take k).foldl putW (keepL s l)) ∧ ((s.take k).foldl putW (keepL s l)).length ≤ l.length + k ∧ Below w.heap.size w wr) (fun _ i _ => s.length - (intOf i).toNat)
      case atStart => exact ⟨0, Nat.zero_le _, rfl, HOWN.out, HLL.out, HB.out⟩
      case round =>
        obtain ⟨k, hk, rfl, hown, hlen, hbw⟩ := hrel
        have HB2 := Lib.hid hbw
        by_cases hlt : k < s.length
        · obtain ⟨y, hy⟩ : ∃ y, s[k]? = some y := ⟨_, List.getElem?_eq_getElem hlt⟩
          have HT : Hid ((s.take (k + 1)).foldl putW (keepL s l) = putW ((s.take k).foldl putW (keepL s l)) y) := Lib.hid (by rw [List.take_add_one, hy, List.foldl_append]; rfl)
          obtain ⟨b, off, rfl, hz, hd0, hd1, hd2⟩ := (HJ.out.below hbw).w3 hy
          generalize (s.take k).foldl putW (keepL s l) = L at *
          obtain ⟨oa, oc, rfl⟩ := hown.slice
          have HOWN2 := Lib.hid hown
          have HLEN := Lib.hid hlen
          clear hz hy hown hlen hbw
          cases hg : y.gone
          · have HT' : Hid ((s.take (k + 1)).foldl putW (keepL s l) = putAux false L ⟨y.key, y.text⟩) := Lib.hid (by rw [HT.out]; unfold putW; rw [hg]; rfl)
            have HPL : Hid ((putAux false L ⟨y.key, y.text⟩).length ≤ l.length + (k + 1)) := Lib.hid (by have := putW_len L y; unfold putW at this; rw [hg] at this; have h2 := HLEN.out; simp at this; omega)
            rw [hg] at hd2
            clear hg HT
            go_wp2
            refine wp_region_held_drew (S := (fun W' => W'.cell? ⟨b, off + k * 3, none⟩ = some (.string y.key) ∧ W'.cell? ⟨b, off + k * 3 + 1, none⟩ = some (.string y.text) ∧ OwnR EP 79 W' w.heap.size (.slice oa L.length oc) L ∧ Below w.heap.size w W')) (by kernel_rfl) ?_ (fun hHeld => ?_)
            · (exact ⟨hd0, hd1, HOWN2.out.drew, HB2.out.drew⟩)
            try (change wpAnyH _ _ _ _ _ _ _ _ (World.drew _))
            refine wpAnyH_take (i := 0) (v := ?_) rfl (by kernel_rfl) (by kernel_rfl) (by kernel_rfl) (fun _ _ _ h => h) (Or.inl ⟨by rfl, ?_⟩) (by assumption) ?_
            rotate_left
            · intro w hSw
              go_simp
              try (with_reducible rfl)
            (simp only [Act.put, List.getElem_toArray, List.getElem_cons_succ, List.getElem_cons_zero, List.setIfInBounds_toArray, List.set_cons_zero, List.set_cons_succ])
            refine wpAnyH_take (i := 1) (v := ?_) rfl (by kernel_rfl) (by kernel_rfl) (by kernel_rfl) (fun _ _ _ h => h) (Or.inl ⟨by rfl, ?_⟩) (by assumption) ?_
            rotate_left
            · intro w hSw
              go_simp
              try (with_reducible rfl)
            (simp only [Act.put, List.getElem_toArray, List.getElem_cons_succ, List.getElem_cons_zero, List.setIfInBounds_toArray, List.set_cons_zero, List.set_cons_succ])
            refine wpAnyH_take (i := 2) (v := ?_) rfl (by kernel_rfl) (by kernel_rfl) (by kernel_rfl) (fun _ _ _ h => h) (Or.inl ⟨by rfl, ?_⟩) (by assumption) ?_
            rotate_left
            · intro w hSw
              go_simp
              try (with_reducible rfl)
            (simp only [Act.put, List.getElem_toArray, List.getElem_cons_succ, List.getElem_cons_zero, List.setIfInBounds_toArray, List.set_cons_zero, List.set_cons_succ])
            refine wpAnyH_take (i := 3) (v := ?_) rfl (by kernel_rfl) (by kernel_rfl) (by kernel_rfl) (fun _ _ _ h => h) (Or.inl ⟨by rfl, ?_⟩) (by assumption) ?_
            rotate_left
            · intro w hSw
              go_simp
              try (with_reducible rfl)
            (simp only [Act.put, List.getElem_toArray, List.getElem_cons_succ, List.getElem_cons_zero, List.setIfInBounds_toArray, List.set_cons_zero, List.set_cons_succ])
            refine wpAnyH_take (i := 4) (v := ?_) rfl (by kernel_rfl) (by kernel_rfl) (by kernel_rfl) (fun _ _ _ h => h) (Or.inl ⟨by rfl, ?_⟩) (by assumption) ?_
            rotate_left
            · intro w hSw
              go_simp
              try (with_reducible rfl)
            (simp only [Act.put, List.getElem_toArray, List.getElem_cons_succ, List.getElem_cons_zero, List.setIfInBounds_toArray, List.set_cons_zero, List.set_cons_succ])
            refine wpAnyH_take (i := 5) (v := ?_) rfl (by kernel_rfl) (by kernel_rfl) (by kernel_rfl) (fun _ _ _ h => h) (Or.inl ⟨by rfl, ?_⟩) (by assumption) ?_
            rotate_left
            · intro w hSw
              (have h0 := hSw.1)
              go_simp
              try (with_reducible rfl)
            (simp only [Act.put, List.getElem_toArray, List.getElem_cons_succ, List.getElem_cons_zero, List.setIfInBounds_toArray, List.set_cons_zero, List.set_cons_succ])
            refine wpAnyH_take (i := 6) (v := ?_) rfl (by kernel_rfl) (by kernel_rfl) (by kernel_rfl) (fun _ _ _ h => h) (Or.inl ⟨by rfl, ?_⟩) (by assumption) ?_
            rotate_left
            · intro w hSw
              go_simp
              try (with_reducible rfl)
            (simp only [Act.put, List.getElem_toArray, List.getElem_cons_succ, List.getElem_cons_zero, List.setIfInBounds_toArray, List.set_cons_zero, List.set_cons_succ])
            refine wpAnyH_take (i := 7) (v := ?_) rfl (by kernel_rfl) (by kernel_rfl) (by kernel_rfl) (fun _ _ _ h => h) (Or.inl ⟨by rfl, ?_⟩) (by assumption) ?_
            rotate_left
            · intro w hSw
              go_simp
              try (with_reducible rfl)
            (simp only [Act.put, List.getElem_toArray, List.getElem_cons_succ, List.getElem_cons_zero, List.setIfInBounds_toArray, List.set_cons_zero, List.set_cons_succ])
            refine wpAnyH_take (i := 8) (v := ?_) rfl (by kernel_rfl) (by kernel_rfl) (by kernel_rfl) (fun _ _ _ h => h) (Or.inl ⟨by rfl, ?_⟩) (by assumption) ?_
            rotate_left
            · intro w hSw
              go_simp
              try (with_reducible rfl)
            (simp only [Act.put, List.getElem_toArray, List.getElem_cons_succ, List.getElem_cons_zero, List.setIfInBounds_toArray, List.set_cons_zero, List.set_cons_succ])
            refine wpAnyH_take (i := 9) (v := ?_) rfl (by kernel_rfl) (by kernel_rfl) (by kernel_rfl) (fun _ _ _ h => h) (Or.inl ⟨by rfl, ?_⟩) (by assumption) ?_
            rotate_left
            · intro w hSw
              go_simp
              try (with_reducible rfl)
            (simp only [Act.put, List.getElem_toArray, List.getElem_cons_succ, List.getElem_cons_zero, List.setIfInBounds_toArray, List.set_cons_zero, List.set_cons_succ])
            refine wpAnyH_take (i := 10) (v := ?_) rfl (by kernel_rfl) (by kernel_rfl) (by kernel_rfl) (fun _ _ _ h => h) (Or.inl ⟨by rfl, ?_⟩) (by assumption) ?_
            rotate_left
            · intro w hSw
              (have h0 := hSw.2.1)
              go_simp
              try (with_reducible rfl)
            (simp only [Act.put, List.getElem_toArray, List.getElem_cons_succ, List.getElem_cons_zero, List.setIfInBounds_toArray, List.set_cons_zero, List.set_cons_succ])
            refine wpAnyH_take (i := 11) (v := ?_) rfl (by kernel_rfl) (by kernel_rfl) (by kernel_rfl) (fun _ _ _ h => h) (Or.inl ⟨by rfl, ?_⟩) (by assumption) ?_
            rotate_left
            · intro w hSw
              go_simp
              try (with_reducible rfl)
            (simp only [Act.put, List.getElem_toArray, List.getElem_cons_succ, List.getElem_cons_zero, List.setIfInBounds_toArray, List.set_cons_zero, List.set_cons_succ])
            refine wpAnyH_ready (rs := [12]) (by kernel_rfl) (by simp) ?_
            refine AllReadyH.cons rfl (fun K hK => ?_) AllReadyH.nil
            go_simp
            (refine (put_calls _ L ⟨y.key, y.text⟩ _ (hHeld.2.2.1.rows (by have := HLEN.out; omega)) (by have := HLEN.out; omega)).mono ?_; rintro e w6 ⟨v6, rfl, ho6, hb6⟩; have HO6 := Lib.hid (ho6.mono hHeld.2.2.2.size); have HB6 := Lib.hid hb6; clear ho6 hb6)
            refine hK.out _ _ ?_ ?_
            · (exact ⟨(HB6.out.cell (World.block_lt_of_cell? _ _ hHeld.1)).trans hHeld.1, (HB6.out.cell (World.block_lt_of_cell? _ _ hHeld.2.1)).trans hHeld.2.1, hHeld.2.2.1.below HB6.out, hHeld.2.2.2.trans (HB6.out.mono hHeld.2.2.2.size)⟩)
            intro hHeld
            clear hK K
            refine wpAnyH_take (i := 13) (v := ?_) rfl (by kernel_rfl) (by kernel_rfl) (by kernel_rfl) (fun _ _ _ h => h) (Or.inl ⟨by rfl, ?_⟩) (by assumption) ?_
            rotate_left
            · intro w hSw
              go_simp
              try (with_reducible rfl)
            (simp only [Act.put, List.getElem_toArray, List.getElem_cons_succ, List.getElem_cons_zero, List.setIfInBounds_toArray, List.set_cons_zero, List.set_cons_succ])
            refine wpAnyH_done (by kernel_rfl) ?_ _
            have HB7 := Lib.hid hHeld.2.2.2
            obtain ⟨A6, c6, e6⟩ := HO6.out.slice
            subst e6
            clear hHeld
            go_wp2
            go_roundw
            case rel => exact ⟨k + 1, hlt, by go_num, by rw [HT'.out]; exact HO6.out, by rw [HT'.out]; exact HPL.out, HB7.out⟩
            case measure => simp [intOf]; omega
          · have HT' : Hid ((s.take (k + 1)).foldl putW (keepL s l) = L) := Lib.hid (by rw [HT.out]; unfold putW; rw [hg]; rfl)
            rw [hg] at hd2
            clear hg HT
            go_wp2
            go_roundw
            case rel => exact ⟨k + 1, hlt, by go_num, by rw [HT'.out]; exact HOWN2.out, by rw [HT'.out]; have := HLEN.out; omega, HB2.out⟩
            case measure => simp [intOf]; omega
        · obtain rfl : k = s.length := by omega
          rw [List.take_length] at hown hlen
          have HOWN2 := Lib.hid hown
          have HLEN := Lib.hid hlen
          clear hlt hk hown hlen hbw
          go_wp2
          go_ret
          exact ⟨_, rfl, HOWN2.out, HLEN.out, HB2.out⟩
end Go.Proofs.Ytdeecdebhigafaa
