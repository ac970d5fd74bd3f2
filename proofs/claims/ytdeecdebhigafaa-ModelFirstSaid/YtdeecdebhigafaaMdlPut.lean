/- MODEL: a pair put among pairs, the document's way. -/
import Derived.Test.YtdeecdebhigafaaMdlOver
namespace Go.Proofs.Ytdeecdebhigafaa
open Go Go.RowKit

def putAux : Bool → List Pr → Pr → List Pr
  | d, [], p => if d then [] else [p]
  | d, x :: l, p => (if !d && !decide (kb x.key < kb p.key) then [p] else []) ++ ((if kb x.key = kb p.key then [] else [x]) ++ putAux (d || !decide (kb x.key < kb p.key)) l p)
theorem drop_cons' {α : Type} {l : List α} {k : Nat} {x : α} (h : l[k]? = some x) : l.drop k = x :: l.drop (k + 1) := by
  obtain ⟨hk, rfl⟩ := List.getElem?_eq_some_iff.1 h
  exact List.drop_eq_getElem_cons hk
set_option maxHeartbeats 1600000 in
theorem put_calls (v : Value) (l : List Pr) (p : Pr) (w : World) (hI : Rows EP w v l) (hN : l.length ≤ 50000) :
    Calls Try.prog 47 #[v, .agg #[.string p.key, .string p.text]] w fun e w' => ∃ v', e = .returned v' ∧ OwnR EP 79 w' w.heap.size v' (putAux false l p) ∧ Below w.heap.size w w' := by
  obtain ⟨a, cap, rfl⟩ := hI.slice
  have hcap := hI.cap_le
  obtain ⟨W, hW⟩ : ∃ W, W = w.alloc (.cells #[.string p.key, .string p.text] 79) := ⟨_, rfl⟩
  have HI : Hid (Rows EP W (.slice a l.length cap) l) := Lib.hid (by rw [hW]; exact hI.alloc _)
  have HB0 : Hid (Below w.heap.size w W) := Lib.hid (by rw [hW]; exact (Below.refl _ w).alloc (Nat.le_refl _) _)
  have HG : Hid (W.heap[w.heap.size]? = some (.cells #[.string p.key, .string p.text] 79 (0, 0))) := Lib.hid (by rw [hW]; exact heap_alloc_new w _)
  have hle := hN
  clear hI
  go_enter Try.func47, Try.ntmps47
  go_upto_region 4 with fail
  rw [← hW]
  have hgsz : w.heap.size < W.heap.size := by rw [hW, World.size_alloc]; omega
  clear hW
  have BX0 : Hid (W.cell? ⟨w.heap.size, 0, none⟩ = some (.string p.key)) := Lib.hid (cell_of_row _ _ _ _ _ _ HG.out)
  have BX1 : Hid (W.cell? ⟨w.heap.size, 1, none⟩ = some (.string p.text)) := Lib.hid (cell_of_row _ _ _ _ _ _ HG.out)
  go_loopw [5, 6, 7] (fun ov dv i wr => ∃ (k : Nat) (d : Bool) (out : List Pr), k ≤ l.length ∧ i = .int .i64 k ∧ dv = .bool d ∧ OwnR EP 79 wr W.heap.size ov out ∧ out ++ putAux d (l.drop k) p = putAux false l p ∧ out.length ≤ 2 * k ∧ Below W.heap.size W wr) (fun _ _ i _ => l.length - (intOf i).toNat)
  case atStart => exact ⟨0, false, [], Nat.zero_le _, rfl, rfl, OwnR.nil_ _ _ _ _, rfl, Nat.zero_le _, Below.refl _ _⟩
  case round =>
    obtain ⟨k, d, out, hk, rfl, rfl, hown, heq, hol, hbw⟩ := hrel
    obtain ⟨oa, oc, rfl⟩ := hown.slice
    have HOWN := Lib.hid hown
    have HEQ := Lib.hid heq
    have HOL := Lib.hid hol
    have HB := Lib.hid hbw
    clear hown heq hol hbw
    by_cases hlt : k < l.length
    · obtain ⟨x, hx⟩ : ∃ x, l[k]? = some x := ⟨_, List.getElem?_eq_getElem hlt⟩
      have HD := Lib.hid (drop_cons' hx)
      obtain ⟨b, off, rfl, hz, c0, c1⟩ := HI.out.p2 hx
      have C0 := Lib.hid c0
      have C1 := Lib.hid c1
      clear hz hx c0 c1
      cases d
      · by_cases h1 : kb x.key < kb p.key
        · have h2 : kb x.key ≠ kb p.key := fun e => by rw [e] at h1; exact ltL_irrefl _ h1
          have t1 : Op.bytesLess x.key.toList p.key.toList = true := by rw [less_eq]; exact decide_eq_true h1
          have t2 : (x.key.toList == p.key.toList) = false := by rw [beq_eq_false_iff_ne]; exact h2
          have HE : Hid (out ++ [x] ++ putAux false (l.drop (k + 1)) p = putAux false l p) := Lib.hid (by have := HEQ.out; rw [HD.out, putAux, decide_eq_true h1, if_neg h2] at this; simpa using this)
          clear h1 h2
          have hc0 : wr.cell? ⟨b, off + k * 2, none⟩ = some (.string x.key) := (HB.out.cell (World.block_lt_of_cell? W _ C0.out)).trans C0.out
          have hc1 : wr.cell? ⟨b, off + k * 2 + 1, none⟩ = some (.string x.text) := (HB.out.cell (World.block_lt_of_cell? W _ C1.out)).trans C1.out
          have bx0 : wr.cell? ⟨w.heap.size, 0, none⟩ = some (.string p.key) := (HB.out.cell (World.block_lt_of_cell? W _ BX0.out)).trans BX0.out
          have bx1 : wr.cell? ⟨w.heap.size, 1, none⟩ = some (.string p.text) := (HB.out.cell (World.block_lt_of_cell? W _ BX1.out)).trans BX1.out
          try go_wp2
          go_quiet (fail)
          have HBW1 : Hid (Below W.heap.size W (wr.drewN nq)) := Lib.hid (below_drewN HB.out nq)
          have HOW1 : Hid (OwnR EP 79 (wr.drewN nq) W.heap.size (Value.slice oa out.length oc) out) := Lib.hid HOWN.out
          clear hc0 hc1 bx0 bx1
          generalize wr.drewN nq = W1 at *
          clear nq
          have hc0 : W1.cell? ⟨b, off + k * 2, none⟩ = some (.string x.key) := (HBW1.out.cell (World.block_lt_of_cell? W _ C0.out)).trans C0.out
          have hc1 : W1.cell? ⟨b, off + k * 2 + 1, none⟩ = some (.string x.text) := (HBW1.out.cell (World.block_lt_of_cell? W _ C1.out)).trans C1.out
          have bx0 : W1.cell? ⟨w.heap.size, 0, none⟩ = some (.string p.key) := (HBW1.out.cell (World.block_lt_of_cell? W _ BX0.out)).trans BX0.out
          have bx1 : W1.cell? ⟨w.heap.size, 1, none⟩ = some (.string p.text) := (HBW1.out.cell (World.block_lt_of_cell? W _ BX1.out)).trans BX1.out
          try go_wp2
          go_quiet (fail)
          have HBW2 : Hid (Below W.heap.size W (W1.drewN nq)) := Lib.hid (below_drewN HBW1.out nq)
          have HOW2 : Hid (OwnR EP 79 (W1.drewN nq) W.heap.size (Value.slice oa out.length oc) out) := Lib.hid HOW1.out
          clear hc0 hc1 bx0 bx1
          generalize W1.drewN nq = W2 at *
          clear nq
          have hc0 : W2.cell? ⟨b, off + k * 2, none⟩ = some (.string x.key) := (HBW2.out.cell (World.block_lt_of_cell? W _ C0.out)).trans C0.out
          have hc1 : W2.cell? ⟨b, off + k * 2 + 1, none⟩ = some (.string x.text) := (HBW2.out.cell (World.block_lt_of_cell? W _ C1.out)).trans C1.out
          have bx0 : W2.cell? ⟨w.heap.size, 0, none⟩ = some (.string p.key) := (HBW2.out.cell (World.block_lt_of_cell? W _ BX0.out)).trans BX0.out
          have bx1 : W2.cell? ⟨w.heap.size, 1, none⟩ = some (.string p.text) := (HBW2.out.cell (World.block_lt_of_cell? W _ BX1.out)).trans BX1.out
          have HNEW4 : Hid (Rows EP (W2.alloc (.cells #[.string x.key, .string x.text] 79)) (.slice (some ⟨W2.heap.size, 0, none⟩) 1 1) [x]) := Lib.hid (rows_new EP W2 79 x)
          go_wp2_with (at_builtin; refine wpList_growR rfl (.tmp 38) (.tmp 43) 46 rfl rowRP W.heap.size _ out rfl (HOW2.out.alloc _) _ [x] rfl HNEW4.out 200000 ?c2 ⟨by simp [maxLen], by omega⟩ ?c1 ?_; (case c1 => (have := HBW2.out.size; simp; omega)); (case c2 => (have := HOL.out; simp; omega)); intro A4 c4 w4 hown4 hb4; have HO4 := Lib.hid hown4; have HB4 := Lib.hid ((HBW2.out.alloc HBW2.out.size _).trans hb4); clear hown4 hb4)
          go_roundw
          case rel => exact ⟨k + 1, false, out ++ [x], hlt, by go_num, rfl, HO4.out, HE.out, by have := HOL.out; simp; omega, HB4.out⟩
          case measure => simp [intOf]; omega
        · by_cases h2 : kb x.key = kb p.key
          · have t1 : Op.bytesLess x.key.toList p.key.toList = false := by rw [less_eq]; exact decide_eq_false h1
            have t2 : (x.key.toList == p.key.toList) = true := by rw [beq_iff_eq]; exact h2
            have HE : Hid (out ++ [p] ++ putAux true (l.drop (k + 1)) p = putAux false l p) := Lib.hid (by have := HEQ.out; rw [HD.out, putAux, decide_eq_false h1, if_pos h2] at this; simpa using this)
            clear h1 h2
            have hc0 : wr.cell? ⟨b, off + k * 2, none⟩ = some (.string x.key) := (HB.out.cell (World.block_lt_of_cell? W _ C0.out)).trans C0.out
            have hc1 : wr.cell? ⟨b, off + k * 2 + 1, none⟩ = some (.string x.text) := (HB.out.cell (World.block_lt_of_cell? W _ C1.out)).trans C1.out
            have bx0 : wr.cell? ⟨w.heap.size, 0, none⟩ = some (.string p.key) := (HB.out.cell (World.block_lt_of_cell? W _ BX0.out)).trans BX0.out
            have bx1 : wr.cell? ⟨w.heap.size, 1, none⟩ = some (.string p.text) := (HB.out.cell (World.block_lt_of_cell? W _ BX1.out)).trans BX1.out
            try go_wp2
            go_quiet (fail)
            have HBW1 : Hid (Below W.heap.size W (wr.drewN nq)) := Lib.hid (below_drewN HB.out nq)
            have HOW1 : Hid (OwnR EP 79 (wr.drewN nq) W.heap.size (Value.slice oa out.length oc) out) := Lib.hid HOWN.out
            clear hc0 hc1 bx0 bx1
            generalize wr.drewN nq = W1 at *
            clear nq
            have hc0 : W1.cell? ⟨b, off + k * 2, none⟩ = some (.string x.key) := (HBW1.out.cell (World.block_lt_of_cell? W _ C0.out)).trans C0.out
            have hc1 : W1.cell? ⟨b, off + k * 2 + 1, none⟩ = some (.string x.text) := (HBW1.out.cell (World.block_lt_of_cell? W _ C1.out)).trans C1.out
            have bx0 : W1.cell? ⟨w.heap.size, 0, none⟩ = some (.string p.key) := (HBW1.out.cell (World.block_lt_of_cell? W _ BX0.out)).trans BX0.out
            have bx1 : W1.cell? ⟨w.heap.size, 1, none⟩ = some (.string p.text) := (HBW1.out.cell (World.block_lt_of_cell? W _ BX1.out)).trans BX1.out
            have HNEW4 : Hid (Rows EP (W1.alloc (.cells #[.string p.key, .string p.text] 79)) (.slice (some ⟨W1.heap.size, 0, none⟩) 1 1) [p]) := Lib.hid (rows_new EP W1 79 p)
            go_wp2_with (at_builtin; refine wpList_growR rfl (.tmp 26) (.tmp 28) 46 rfl rowRP W.heap.size _ out rfl (HOW1.out.alloc _) _ [p] rfl HNEW4.out 200000 ?c2 ⟨by simp [maxLen], by omega⟩ ?c1 ?_; (case c1 => (have := HBW1.out.size; simp; omega)); (case c2 => (have := HOL.out; simp; omega)); intro A4 c4 w4 hown4 hb4; have HO4 := Lib.hid hown4; have HB4 := Lib.hid ((HBW1.out.alloc HBW1.out.size _).trans hb4); clear hown4 hb4)
            clear hc0 hc1 bx0 bx1
            have hc0 : w4.cell? ⟨b, off + k * 2, none⟩ = some (.string x.key) := (HB4.out.cell (World.block_lt_of_cell? W _ C0.out)).trans C0.out
            have hc1 : w4.cell? ⟨b, off + k * 2 + 1, none⟩ = some (.string x.text) := (HB4.out.cell (World.block_lt_of_cell? W _ C1.out)).trans C1.out
            have bx0 : w4.cell? ⟨w.heap.size, 0, none⟩ = some (.string p.key) := (HB4.out.cell (World.block_lt_of_cell? W _ BX0.out)).trans BX0.out
            have bx1 : w4.cell? ⟨w.heap.size, 1, none⟩ = some (.string p.text) := (HB4.out.cell (World.block_lt_of_cell? W _ BX1.out)).trans BX1.out
            try go_wp2
            go_quiet (fail)
            have HBW2 : Hid (Below W.heap.size W (w4.drewN nq)) := Lib.hid (below_drewN HB4.out nq)
            have HOW2 : Hid (OwnR EP 79 (w4.drewN nq) W.heap.size (Value.slice A4 (out.length + [p].length) c4) (out ++ [p])) := Lib.hid HO4.out
            clear hc0 hc1 bx0 bx1
            generalize w4.drewN nq = W2 at *
            clear nq
            go_wp2
            go_roundw
            case rel => exact ⟨k + 1, true, out ++ [p], hlt, by go_num, rfl, HOW2.out, HE.out, by have := HOL.out; simp; omega, HBW2.out⟩
            case measure => simp [intOf]; omega
          · have t1 : Op.bytesLess x.key.toList p.key.toList = false := by rw [less_eq]; exact decide_eq_false h1
            have t2 : (x.key.toList == p.key.toList) = false := by rw [beq_eq_false_iff_ne]; exact h2
            have HE : Hid (out ++ [p] ++ [x] ++ putAux true (l.drop (k + 1)) p = putAux false l p) := Lib.hid (by have := HEQ.out; rw [HD.out, putAux, decide_eq_false h1, if_neg h2] at this; simpa using this)
            clear h1 h2
            have hc0 : wr.cell? ⟨b, off + k * 2, none⟩ = some (.string x.key) := (HB.out.cell (World.block_lt_of_cell? W _ C0.out)).trans C0.out
            have hc1 : wr.cell? ⟨b, off + k * 2 + 1, none⟩ = some (.string x.text) := (HB.out.cell (World.block_lt_of_cell? W _ C1.out)).trans C1.out
            have bx0 : wr.cell? ⟨w.heap.size, 0, none⟩ = some (.string p.key) := (HB.out.cell (World.block_lt_of_cell? W _ BX0.out)).trans BX0.out
            have bx1 : wr.cell? ⟨w.heap.size, 1, none⟩ = some (.string p.text) := (HB.out.cell (World.block_lt_of_cell? W _ BX1.out)).trans BX1.out
            try go_wp2
            go_quiet (fail)
            have HBW1 : Hid (Below W.heap.size W (wr.drewN nq)) := Lib.hid (below_drewN HB.out nq)
            have HOW1 : Hid (OwnR EP 79 (wr.drewN nq) W.heap.size (Value.slice oa out.length oc) out) := Lib.hid HOWN.out
            clear hc0 hc1 bx0 bx1
            generalize wr.drewN nq = W1 at *
            clear nq
            have hc0 : W1.cell? ⟨b, off + k * 2, none⟩ = some (.string x.key) := (HBW1.out.cell (World.block_lt_of_cell? W _ C0.out)).trans C0.out
            have hc1 : W1.cell? ⟨b, off + k * 2 + 1, none⟩ = some (.string x.text) := (HBW1.out.cell (World.block_lt_of_cell? W _ C1.out)).trans C1.out
            have bx0 : W1.cell? ⟨w.heap.size, 0, none⟩ = some (.string p.key) := (HBW1.out.cell (World.block_lt_of_cell? W _ BX0.out)).trans BX0.out
            have bx1 : W1.cell? ⟨w.heap.size, 1, none⟩ = some (.string p.text) := (HBW1.out.cell (World.block_lt_of_cell? W _ BX1.out)).trans BX1.out
            have HNEW4 : Hid (Rows EP (W1.alloc (.cells #[.string p.key, .string p.text] 79)) (.slice (some ⟨W1.heap.size, 0, none⟩) 1 1) [p]) := Lib.hid (rows_new EP W1 79 p)
            go_wp2_with (at_builtin; refine wpList_growR rfl (.tmp 26) (.tmp 28) 46 rfl rowRP W.heap.size _ out rfl (HOW1.out.alloc _) _ [p] rfl HNEW4.out 200000 ?c2 ⟨by simp [maxLen], by omega⟩ ?c1 ?_; (case c1 => (have := HBW1.out.size; simp; omega)); (case c2 => (have := HOL.out; simp; omega)); intro A4 c4 w4 hown4 hb4; have HO4 := Lib.hid hown4; have HB4 := Lib.hid ((HBW1.out.alloc HBW1.out.size _).trans hb4); clear hown4 hb4)
            clear hc0 hc1 bx0 bx1
            have hc0 : w4.cell? ⟨b, off + k * 2, none⟩ = some (.string x.key) := (HB4.out.cell (World.block_lt_of_cell? W _ C0.out)).trans C0.out
            have hc1 : w4.cell? ⟨b, off + k * 2 + 1, none⟩ = some (.string x.text) := (HB4.out.cell (World.block_lt_of_cell? W _ C1.out)).trans C1.out
            have bx0 : w4.cell? ⟨w.heap.size, 0, none⟩ = some (.string p.key) := (HB4.out.cell (World.block_lt_of_cell? W _ BX0.out)).trans BX0.out
            have bx1 : w4.cell? ⟨w.heap.size, 1, none⟩ = some (.string p.text) := (HB4.out.cell (World.block_lt_of_cell? W _ BX1.out)).trans BX1.out
            try go_wp2
            go_quiet (fail)
            have HBW2 : Hid (Below W.heap.size W (w4.drewN nq)) := Lib.hid (below_drewN HB4.out nq)
            have HOW2 : Hid (OwnR EP 79 (w4.drewN nq) W.heap.size (Value.slice A4 (out.length + [p].length) c4) (out ++ [p])) := Lib.hid HO4.out
            clear hc0 hc1 bx0 bx1
            generalize w4.drewN nq = W2 at *
            clear nq
            have hc0 : W2.cell? ⟨b, off + k * 2, none⟩ = some (.string x.key) := (HBW2.out.cell (World.block_lt_of_cell? W _ C0.out)).trans C0.out
            have hc1 : W2.cell? ⟨b, off + k * 2 + 1, none⟩ = some (.string x.text) := (HBW2.out.cell (World.block_lt_of_cell? W _ C1.out)).trans C1.out
            have bx0 : W2.cell? ⟨w.heap.size, 0, none⟩ = some (.string p.key) := (HBW2.out.cell (World.block_lt_of_cell? W _ BX0.out)).trans BX0.out
            have bx1 : W2.cell? ⟨w.heap.size, 1, none⟩ = some (.string p.text) := (HBW2.out.cell (World.block_lt_of_cell? W _ BX1.out)).trans BX1.out
            have HNEW5 : Hid (Rows EP (W2.alloc (.cells #[.string x.key, .string x.text] 79)) (.slice (some ⟨W2.heap.size, 0, none⟩) 1 1) [x]) := Lib.hid (rows_new EP W2 79 x)
            go_wp2_with (at_builtin; refine wpList_growR rfl (.tmp 38) (.tmp 43) 46 rfl rowRP W.heap.size _ (out ++ [p]) rfl (HOW2.out.alloc _) _ [x] rfl HNEW5.out 200000 ?c2 ⟨by simp [maxLen], by omega⟩ ?c1 ?_; (case c1 => (have := HBW2.out.size; simp; omega)); (case c2 => (have := HOL.out; simp; omega)); intro A5 c5 w5 hown4 hb4; have HO5 := Lib.hid hown4; have HB5 := Lib.hid ((HBW2.out.alloc HBW2.out.size _).trans hb4); clear hown4 hb4)
            go_roundw
            case rel => exact ⟨k + 1, true, out ++ [p] ++ [x], hlt, by go_num, rfl, (by have := HO5.out; rw [List.length_append] at this; exact this), HE.out, by have := HOL.out; simp; omega, HB5.out⟩
            case measure => simp [intOf]; omega
      · by_cases h2 : kb x.key = kb p.key
        · have t2 : (x.key.toList == p.key.toList) = true := by rw [beq_iff_eq]; exact h2
          have HE : Hid (out ++ putAux true (l.drop (k + 1)) p = putAux false l p) := Lib.hid (by have := HEQ.out; rw [HD.out, putAux, if_pos h2] at this; simpa using this)
          clear h2
          have hc0 : wr.cell? ⟨b, off + k * 2, none⟩ = some (.string x.key) := (HB.out.cell (World.block_lt_of_cell? W _ C0.out)).trans C0.out
          have hc1 : wr.cell? ⟨b, off + k * 2 + 1, none⟩ = some (.string x.text) := (HB.out.cell (World.block_lt_of_cell? W _ C1.out)).trans C1.out
          have bx0 : wr.cell? ⟨w.heap.size, 0, none⟩ = some (.string p.key) := (HB.out.cell (World.block_lt_of_cell? W _ BX0.out)).trans BX0.out
          have bx1 : wr.cell? ⟨w.heap.size, 1, none⟩ = some (.string p.text) := (HB.out.cell (World.block_lt_of_cell? W _ BX1.out)).trans BX1.out
          try go_wp2
          go_quiet (fail)
          have HBW1 : Hid (Below W.heap.size W (wr.drewN nq)) := Lib.hid (below_drewN HB.out nq)
          have HOW1 : Hid (OwnR EP 79 (wr.drewN nq) W.heap.size (Value.slice oa out.length oc) out) := Lib.hid HOWN.out
          clear hc0 hc1 bx0 bx1
          generalize wr.drewN nq = W1 at *
          clear nq
          have hc0 : W1.cell? ⟨b, off + k * 2, none⟩ = some (.string x.key) := (HBW1.out.cell (World.block_lt_of_cell? W _ C0.out)).trans C0.out
          have hc1 : W1.cell? ⟨b, off + k * 2 + 1, none⟩ = some (.string x.text) := (HBW1.out.cell (World.block_lt_of_cell? W _ C1.out)).trans C1.out
          have bx0 : W1.cell? ⟨w.heap.size, 0, none⟩ = some (.string p.key) := (HBW1.out.cell (World.block_lt_of_cell? W _ BX0.out)).trans BX0.out
          have bx1 : W1.cell? ⟨w.heap.size, 1, none⟩ = some (.string p.text) := (HBW1.out.cell (World.block_lt_of_cell? W _ BX1.out)).trans BX1.out
          try go_wp2
          go_quiet (fail)
          have HBW2 : Hid (Below W.heap.size W (W1.drewN nq)) := Lib.hid (below_drewN HBW1.out nq)
          have HOW2 : Hid (OwnR EP 79 (W1.drewN nq) W.heap.size (Value.slice oa out.length oc) out) := Lib.hid HOW1.out
          clear hc0 hc1 bx0 bx1
          generalize W1.drewN nq = W2 at *
          clear nq
          go_wp2
          go_roundw
          case rel => exact ⟨k + 1, true, out, hlt, by go_num, rfl, HOW2.out, HE.out, by have := HOL.out; simp; omega, HBW2.out⟩
          case measure => simp [intOf]; omega
        · have t2 : (x.key.toList == p.key.toList) = false := by rw [beq_eq_false_iff_ne]; exact h2
          have HE : Hid (out ++ [x] ++ putAux true (l.drop (k + 1)) p = putAux false l p) := Lib.hid (by have := HEQ.out; rw [HD.out, putAux, if_neg h2] at this; simpa using this)
          clear h2
          have hc0 : wr.cell? ⟨b, off + k * 2, none⟩ = some (.string x.key) := (HB.out.cell (World.block_lt_of_cell? W _ C0.out)).trans C0.out
          have hc1 : wr.cell? ⟨b, off + k * 2 + 1, none⟩ = some (.string x.text) := (HB.out.cell (World.block_lt_of_cell? W _ C1.out)).trans C1.out
          have bx0 : wr.cell? ⟨w.heap.size, 0, none⟩ = some (.string p.key) := (HB.out.cell (World.block_lt_of_cell? W _ BX0.out)).trans BX0.out
          have bx1 : wr.cell? ⟨w.heap.size, 1, none⟩ = some (.string p.text) := (HB.out.cell (World.block_lt_of_cell? W _ BX1.out)).trans BX1.out
          try go_wp2
          go_quiet (fail)
          have HBW1 : Hid (Below W.heap.size W (wr.drewN nq)) := Lib.hid (below_drewN HB.out nq)
          have HOW1 : Hid (OwnR EP 79 (wr.drewN nq) W.heap.size (Value.slice oa out.length oc) out) := Lib.hid HOWN.out
          clear hc0 hc1 bx0 bx1
          generalize wr.drewN nq = W1 at *
          clear nq
          have hc0 : W1.cell? ⟨b, off + k * 2, none⟩ = some (.string x.key) := (HBW1.out.cell (World.block_lt_of_cell? W _ C0.out)).trans C0.out
          have hc1 : W1.cell? ⟨b, off + k * 2 + 1, none⟩ = some (.string x.text) := (HBW1.out.cell (World.block_lt_of_cell? W _ C1.out)).trans C1.out
          have bx0 : W1.cell? ⟨w.heap.size, 0, none⟩ = some (.string p.key) := (HBW1.out.cell (World.block_lt_of_cell? W _ BX0.out)).trans BX0.out
          have bx1 : W1.cell? ⟨w.heap.size, 1, none⟩ = some (.string p.text) := (HBW1.out.cell (World.block_lt_of_cell? W _ BX1.out)).trans BX1.out
          try go_wp2
          go_quiet (fail)
          have HBW2 : Hid (Below W.heap.size W (W1.drewN nq)) := Lib.hid (below_drewN HBW1.out nq)
          have HOW2 : Hid (OwnR EP 79 (W1.drewN nq) W.heap.size (Value.slice oa out.length oc) out) := Lib.hid HOW1.out
          clear hc0 hc1 bx0 bx1
          generalize W1.drewN nq = W2 at *
          clear nq
          have hc0 : W2.cell? ⟨b, off + k * 2, none⟩ = some (.string x.key) := (HBW2.out.cell (World.block_lt_of_cell? W _ C0.out)).trans C0.out
          have hc1 : W2.cell? ⟨b, off + k * 2 + 1, none⟩ = some (.string x.text) := (HBW2.out.cell (World.block_lt_of_cell? W _ C1.out)).trans C1.out
          have bx0 : W2.cell? ⟨w.heap.size, 0, none⟩ = some (.string p.key) := (HBW2.out.cell (World.block_lt_of_cell? W _ BX0.out)).trans BX0.out
          have bx1 : W2.cell? ⟨w.heap.size, 1, none⟩ = some (.string p.text) := (HBW2.out.cell (World.block_lt_of_cell? W _ BX1.out)).trans BX1.out
          have HNEW4 : Hid (Rows EP (W2.alloc (.cells #[.string x.key, .string x.text] 79)) (.slice (some ⟨W2.heap.size, 0, none⟩) 1 1) [x]) := Lib.hid (rows_new EP W2 79 x)
          go_wp2_with (at_builtin; refine wpList_growR rfl (.tmp 38) (.tmp 43) 46 rfl rowRP W.heap.size _ out rfl (HOW2.out.alloc _) _ [x] rfl HNEW4.out 200000 ?c2 ⟨by simp [maxLen], by omega⟩ ?c1 ?_; (case c1 => (have := HBW2.out.size; simp; omega)); (case c2 => (have := HOL.out; simp; omega)); intro A4 c4 w4 hown4 hb4; have HO4 := Lib.hid hown4; have HB4 := Lib.hid ((HBW2.out.alloc HBW2.out.size _).trans hb4); clear hown4 hb4)
          go_roundw
          case rel => exact ⟨k + 1, true, out ++ [x], hlt, by go_num, rfl, HO4.out, HE.out, by have := HOL.out; simp; omega, HB4.out⟩
          case measure => simp [intOf]; omega
    · obtain rfl : k = l.length := by omega
      clear hlt hk
      cases d
      · have HE : Hid (out ++ [p] = putAux false l p) := Lib.hid (by have := HEQ.out; rw [List.drop_length] at this; exact this)
        
        have bx0 : wr.cell? ⟨w.heap.size, 0, none⟩ = some (.string p.key) := (HB.out.cell (World.block_lt_of_cell? W _ BX0.out)).trans BX0.out
        have bx1 : wr.cell? ⟨w.heap.size, 1, none⟩ = some (.string p.text) := (HB.out.cell (World.block_lt_of_cell? W _ BX1.out)).trans BX1.out
        have HNEW : Hid (Rows EP (wr.alloc (.cells #[.string p.key, .string p.text] 79)) (.slice (some ⟨wr.heap.size, 0, none⟩) 1 1) [p]) := Lib.hid (rows_new EP wr 79 p)
        go_wp2_with (at_builtin; refine wpList_growR rfl (.tmp 47) (.tmp 49) 46 rfl rowRP W.heap.size _ out rfl (HOWN.out.alloc _) _ [p] rfl HNEW.out 200000 ?c2 ⟨by simp [maxLen], by omega⟩ ?c1 ?_; (case c1 => (have := HB.out.size; simp; omega)); (case c2 => (have := HOL.out; simp; omega)); intro A4 c4 w4 hown4 hb4; have HOWN4 := Lib.hid hown4; have HB4 := Lib.hid ((HB.out.alloc HB.out.size _).trans hb4); clear hown4 hb4)
        go_ret
        exact ⟨_, rfl, by rw [← HE.out]; exact HOWN4.out.mono (by omega), HB0.out.trans (HB4.out.mono HB0.out.size)⟩
      · have HE : Hid (out = putAux false l p) := Lib.hid (by have := HEQ.out; rw [List.drop_length, putAux, if_pos rfl, List.append_nil] at this; exact this)
        go_wp2
        go_ret
        exact ⟨_, rfl, by rw [← HE.out]; exact HOWN.out.mono (by omega), HB0.out.trans (HB.out.mono HB0.out.size)⟩
end Go.Proofs.Ytdeecdebhigafaa
