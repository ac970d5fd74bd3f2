/- SLAB: the walks of the document's functions: a slab as seventeen cells. -/
import Derived.Test.YtkmkficnkiaajaaDoorSlabMath
import Derived.Test.YtkmkficnkiaajaaDoorHeld
import Derived.Laws.ResultCell
import Derived.Laws.Tables
namespace Go.Proofs.YtkmkficnkiaajaaDoor
open Go Go.RowKit
set_option linter.unusedSimpArgs false

theorem rblocks_calls (c : Int) (w : World) : Calls Tryd.prog 36 #[.int .i64 c] w fun e w' => e = .returned (.int .i64 (blkN c)) ∧ w = w' := by
  by_cases h1 : c = 1
  · subst h1
    go_enter Tryd.func36, Tryd.ntmps36
    go_wp2
    go_ret
    exact ⟨rfl, rfl⟩
  · by_cases h2 : c = 2
    · subst h2
      go_enter Tryd.func36, Tryd.ntmps36
      go_wp2
      go_ret
      exact ⟨rfl, rfl⟩
    · have e : blkN c = 0 := by unfold blkN; rw [if_neg h1, if_neg h2]
      have t1 : (c == 1) = false := by simpa using h1
      have t2 : (c == 2) = false := by simpa using h2
      rw [e]
      clear e h1 h2
      go_enter Tryd.func36, Tryd.ntmps36
      go_wp2
      go_ret
      exact ⟨rfl, rfl⟩
theorem rblocks_at (c r : Int) (w : World) (h : blkN c = r) : Calls Tryd.prog 36 #[.int .i64 c] w fun e w' => e = .returned (.int .i64 r) ∧ w = w' := by
  subst h; exact rblocks_calls c w
/-- seventeen cells: a class, and which blocks are taken -/
def SlabC (C : Array Value) (c : Int) (f : Nat → Bool) : Prop := C.size = 17 ∧ C[0]? = some (.int .i64 c) ∧ ∀ k, k < 16 → C[1 + k]? = some (.bool (f k))
def cntF (f : Nat → Bool) (k : Nat) : Nat := (List.range k).countP f
theorem cntF_snoc (f : Nat → Bool) (k : Nat) : cntF f (k + 1) = cntF f k + if f k then 1 else 0 := by
  unfold cntF
  rw [List.range_succ, List.countP_append]
  cases h : f k <;> simp [h]
theorem cntF_le (f : Nat → Bool) (k : Nat) : cntF f k ≤ k := by
  have := List.countP_le_length (p := f) (l := List.range k)
  simpa [cntF] using this
theorem count_calls (C : Array Value) (c : Int) (f : Nat → Bool) (w : World) (hC : SlabC C c f) :
    Calls Tryd.prog 47 #[.agg C] w fun e w' => e = .returned (.int .i64 ((cntF f 16 : Nat) : Int)) ∧ Below w.heap.size w w' := by
  have HC := Lib.hid hC
  have HB : Hid (Below w.heap.size w (w.alloc (.cells C 57))) := Lib.hid ((Below.refl w.heap.size w).alloc (Nat.le_refl _) _)
  clear hC
  go_enter Tryd.func47, Tryd.ntmps47
  go_wp2
  go_loop [3, 4] (fun x i => ∃ k : Nat, k ≤ 16 ∧ i = .int .i64 k ∧ x = .int .i64 ((cntF f k : Nat) : Int)) (fun _ i => 16 - (intOf i).toNat)
  case atStart => exact ⟨0, Nat.zero_le _, rfl, rfl⟩
  case round =>
    obtain ⟨k, hk, rfl, rfl⟩ := hrel
    by_cases hlt : k < 16
    · have hcell := HC.out.2.2 k hlt
      have hle := cntF_le f k
      have HS := Lib.hid (cntF_snoc f k)
      generalize cntF f k = q at *
      cases hf : f k
      all_goals
        rw [hf] at hcell HS
        simp only [Bool.false_eq_true, if_true, if_false, Nat.add_zero] at HS
        clear hf
        go_wp2
        go_round
        case rel => exact ⟨k + 1, hlt, by go_num, by rw [HS.out]; (try go_num)⟩
        case measure => simp [intOf]; omega
    · obtain rfl : k = 16 := by omega
      go_wp2
      go_ret
      exact ⟨rfl, HB.out⟩
theorem count_at (C : Array Value) (c : Int) (f : Nat → Bool) (q : Nat) (w : World) (hC : SlabC C c f) (h : cntF f 16 = q) :
    Calls Tryd.prog 47 #[.agg C] w fun e w' => e = .returned (.int .i64 (q : Int)) ∧ Below w.heap.size w w' := by
  subst h; exact count_calls C c f w hC
/-- the blocks as a number -/
def sumF (f : Nat → Bool) : Nat → Nat
  | 0 => 0
  | k + 1 => sumF f k + if f k then 2 ^ k else 0
theorem sumF_lt (f : Nat → Bool) : ∀ k, sumF f k < 2 ^ k
  | 0 => by simp [sumF]
  | k + 1 => by
    have h := sumF_lt f k
    simp only [sumF, Nat.pow_succ]
    split <;> omega
theorem sumF_bit (f : Nat → Bool) : ∀ k i, i < k → (sumF f k).testBit i = f i
  | 0, i, h => by omega
  | k + 1, i, h => by
    have hl := sumF_lt f k
    have hs := set_bit (sumF f k) k (f k) i
    have hz : (sumF f k).testBit k = false := Nat.testBit_lt_two_pow hl
    rw [hz] at hs
    simp only [Bool.false_eq_true, if_false, Nat.sub_zero] at hs
    show (sumF f k + if f k then 2 ^ k else 0).testBit i = f i
    rw [hs]
    by_cases e : i = k
    · rw [if_pos e, e]
    · rw [if_neg e]; exact sumF_bit f k i (by omega)
theorem sum_word (c : Nat) (f : Nat → Bool) : (c * 65536 + sumF f 16) / 65536 = c ∧ ∀ i, i < 16 → (c * 65536 + sumF f 16).testBit i = f i := by
  have hl := sumF_lt f 16
  have e16 : (2 : Nat) ^ 16 = 65536 := rfl
  refine ⟨by omega, fun i hi => ?_⟩
  rw [← tb_low hi]
  have : (c * 65536 + sumF f 16) % 65536 = sumF f 16 := by omega
  rw [this, sumF_bit f 16 i hi]
set_option maxHeartbeats 400000 in
theorem rword_calls (C : Array Value) (c : Nat) (f : Nat → Bool) (w : World) (hC : SlabC C (c : Int) f) (hc : c ≤ 3) :
    Calls Tryd.prog 45 #[.agg C] w fun e w' => e = .returned (.int .u64 ((c * 65536 + sumF f 16 : Nat) : Int)) ∧ Below w.heap.size w w' := by
  have HC := Lib.hid hC
  have HB : Hid (Below w.heap.size w (w.alloc (.cells C 57))) := Lib.hid ((Below.refl w.heap.size w).alloc (Nat.le_refl _) _)
  have hc0 := hC.2.1
  clear hC
  go_enter Tryd.func45, Tryd.ntmps45
  go_wp2
  go_loop [3, 4, 5] (fun x p i => ∃ k : Nat, k ≤ 16 ∧ i = .int .i64 k ∧ p = .int .u64 ((2 ^ k : Nat) : Int) ∧ x = .int .u64 ((c * 65536 + sumF f k : Nat) : Int)) (fun _ _ i => 16 - (intOf i).toNat)
  case atStart => exact ⟨0, Nat.zero_le _, rfl, rfl, by simp [sumF]⟩
  case round =>
    obtain ⟨k, hk, rfl, rfl, rfl⟩ := hrel
    by_cases hlt : k < 16
    · have hcell := HC.out.2.2 k hlt
      have hl := sumF_lt f k
      have hp : (2 : Nat) ^ k ≤ 2 ^ 15 := Nat.pow_le_pow_right (by omega) (by omega)
      have HS : Hid (sumF f (k + 1) = sumF f k + if f k then 2 ^ k else 0) := Lib.hid rfl
      have HP : Hid ((2 : Nat) ^ (k + 1) = 2 ^ k * 2) := Lib.hid (Nat.pow_succ ..)
      generalize sumF f k = q at *
      generalize (2 : Nat) ^ k = p at *
      obtain ⟨y, hy⟩ : ∃ y, y = c * 65536 + q := ⟨_, rfl⟩
      rw [← hy]
      have hyl : y ≤ 1000000 := by omega
      have HYY := Lib.hid hy
      clear hy
      cases hf : f k
      all_goals
        rw [hf] at hcell HS
        simp only [Bool.false_eq_true, if_true, if_false, Nat.add_zero] at HS
        clear hf
        go_wp2
        go_round
        case rel => exact ⟨k + 1, hlt, by go_num, congrArg (Value.int .u64) (by rw [HP.out]; omega), congrArg (Value.int .u64) (by rw [HS.out]; have := HYY.out; omega)⟩
        case measure => simp [intOf]; omega
    · obtain rfl : k = 16 := by omega
      go_wp2
      go_ret
      exact ⟨rfl, HB.out⟩
def zeroC : Array Value := #[.int .i64 0, .bool false, .bool false, .bool false, .bool false, .bool false, .bool false, .bool false, .bool false, .bool false, .bool false, .bool false, .bool false, .bool false, .bool false, .bool false, .bool false]
theorem zeroC_slab : SlabC zeroC 0 (fun _ => false) := ⟨rfl, rfl, fun k hk => by
  rcases k with _ | _ | _ | _ | _ | _ | _ | _ | _ | _ | _ | _ | _ | _ | _ | _ | k <;> first | rfl | omega⟩
/-- a slab that lies in a block -/
def SlabAt (w : World) (b : Nat) (C : Array Value) : Prop := w.heap[b]? = some (.cells C 57 (0, 0))
theorem SlabAt.set {w : World} {b : Nat} {C : Array Value} (h : SlabAt w b C) (i : Nat) (v : Value) : SlabAt (w.setCell ⟨b, i, none⟩ v) b (C.setIfInBounds i v) := heap_setCell_same w b i C _ v h
theorem SlabAt.other {w : World} {b : Nat} {C : Array Value} (h : SlabAt w b C) (a : Addr) (ha : b ≠ a.block) (v : Value) : SlabAt (w.setCell a v) b C := (heap_setCell_other w a b v ha).trans h
theorem SlabAt.cells {w : World} {b : Nat} {C : Array Value} {c : Int} {f : Nat → Bool} (h : SlabAt w b C) (hC : SlabC C c f) :
    w.cell? ⟨b, 0, none⟩ = some (.int .i64 c) ∧ (∀ k, k < 16 → w.cell? ⟨b, 1 + k, none⟩ = some (.bool (f k))) ∧ ∀ j, w.frozen? ⟨b, j, none⟩ = false :=
  ⟨(cell_of_row w b 0 C _ _ h).trans hC.2.1, fun k hk => (cell_of_row w b (1 + k) C _ _ h).trans (hC.2.2 k hk), fun j => frozen_of_row w b j C _ h⟩
theorem SlabC.setK {C : Array Value} {c : Int} {f g : Nat → Bool} (h : SlabC C c f) (k : Nat) (hk : k < 16) (b : Bool) (hg : ∀ j, g j = if j = k then b else f j) : SlabC (C.setIfInBounds (1 + k) (.bool b)) c g := by
  obtain ⟨h1, h2, h3⟩ := h
  refine ⟨by simpa using h1, ?_, fun j hj => ?_⟩
  · rw [Array.getElem?_setIfInBounds_ne (by omega)]; exact h2
  · rw [hg j]
    by_cases e : j = k
    · subst e
      rw [if_pos rfl, Array.getElem?_setIfInBounds_self_of_lt (by omega)]
    · rw [if_neg e, Array.getElem?_setIfInBounds_ne (by omega)]; exact h3 j hj
theorem SlabC.setC {C : Array Value} {c : Int} {f : Nat → Bool} (h : SlabC C c f) (c' : Int) : SlabC (C.setIfInBounds 0 (.int .i64 c')) c' f := by
  obtain ⟨h1, h2, h3⟩ := h
  refine ⟨by simpa using h1, ?_, fun j hj => ?_⟩
  · rw [Array.getElem?_setIfInBounds_self_of_lt (by omega)]
  · rw [Array.getElem?_setIfInBounds_ne (by omega)]; exact h3 j hj
theorem SlabC.ext {C : Array Value} {c : Int} {f g : Nat → Bool} (h : SlabC C c f) (hg : ∀ j, j < 16 → f j = g j) : SlabC C c g :=
  ⟨h.1, h.2.1, fun k hk => by rw [h.2.2 k hk, hg k hk]⟩
theorem SlabC.one {C : Array Value} {c : Int} {f : Nat → Bool} (h : SlabC C c f) : C.all (·.oneCell') = true := by
  rw [Array.all_eq_true_iff_forall_mem]
  intro v hv
  obtain ⟨i, hi, rfl⟩ := Array.mem_iff_getElem.1 hv
  have hs := h.1
  rcases i with _ | i
  · have := h.2.1
    rw [Array.getElem?_eq_getElem hi] at this
    simp only [Option.some.injEq] at this
    rw [this]; rfl
  · have := h.2.2 i (by omega)
    rw [Nat.add_comm, Array.getElem?_eq_getElem hi] at this
    simp only [Option.some.injEq] at this
    rw [this]; rfl
theorem slabSize : (Tryd.prog.info? 57).map (·.size) = some 17 := by kernel_rfl
theorem results_row_tmp {P : Program} {fn : Func} {p u : Tmp} {ty : TypeId} (h : fn.results = #[.cell p ty, .tmp u]) (tmps : Array Value) (w : World) (g : Nat) (t : TypeId) (cs : Array Value) (fr : Nat × Nat) (d : TypeDesc)
    (hp : tmps.getD p undef = .pointer (some ⟨g, 0, none⟩)) (hg : w.heap[g]? = some (.cells cs t fr))
    (hu : P.underlying ty = some d) (hd : (match d with | .struct _ | .array _ _ => true | _ => false) = true) (hi : (P.info? ty).map (·.size) = some cs.size) :
    (results fn tmps).run P w = .ok (.tuple #[.agg cs, tmps.getD u undef]) w := by
  rw [results_cell_tmp h, hp]
  simp [asAddr, run_loadVar_row w g t ty cs fr d hg hu hd hi, Result.andThen]
/-- 'Of', of a word that is not too large: what lies in the two blocks when the loop begins -/
theorem of_begin (w : World) : SlabAt ((w.alloc (.cells #[.int .i64 0, .bool false, .bool false, .bool false, .bool false, .bool false, .bool false, .bool false, .bool false, .bool false, .bool false, .bool false, .bool false, .bool false, .bool false, .bool false, .bool false] 57)).alloc (.cells #[.int .i64 0, .bool false, .bool false, .bool false, .bool false, .bool false, .bool false, .bool false, .bool false, .bool false, .bool false, .bool false, .bool false, .bool false, .bool false, .bool false, .bool false] 57)) w.heap.size zeroC ∧ SlabAt ((w.alloc (.cells #[.int .i64 0, .bool false, .bool false, .bool false, .bool false, .bool false, .bool false, .bool false, .bool false, .bool false, .bool false, .bool false, .bool false, .bool false, .bool false, .bool false, .bool false] 57)).alloc (.cells #[.int .i64 0, .bool false, .bool false, .bool false, .bool false, .bool false, .bool false, .bool false, .bool false, .bool false, .bool false, .bool false, .bool false, .bool false, .bool false, .bool false, .bool false] 57)) (w.heap.size + 1) zeroC ∧ Below w.heap.size w ((w.alloc (.cells #[.int .i64 0, .bool false, .bool false, .bool false, .bool false, .bool false, .bool false, .bool false, .bool false, .bool false, .bool false, .bool false, .bool false, .bool false, .bool false, .bool false, .bool false] 57)).alloc (.cells #[.int .i64 0, .bool false, .bool false, .bool false, .bool false, .bool false, .bool false, .bool false, .bool false, .bool false, .bool false, .bool false, .bool false, .bool false, .bool false, .bool false, .bool false] 57)) :=
  ⟨heap_alloc2_old w _ _, heap_alloc2_new w _ _, ((Below.refl w.heap.size w).alloc (Nat.le_refl _) _).alloc (by simp) _⟩
set_option maxHeartbeats 1600000 in
theorem of_big (n : Nat) (w : World) (hn : n < 18446744073709551616) (h : 196608 ≤ n) :
    Calls Tryd.prog 33 #[.int .u64 n] w fun e w' => e = .returned (.tuple #[.agg zeroC, .bool false]) ∧ Below w.heap.size w w' := by
  have t1 : decide (196608 ≤ (n : Int)) = true := by simp; omega
  obtain ⟨hr, hb, hbel⟩ := of_begin w
  have HR := Lib.hid hr
  have HB := Lib.hid hb
  have HBL := Lib.hid hbel
  clear hn hr hb hbel
  go_enter Tryd.func33, Tryd.ntmps33
  go_upto_region 2 with (fail)
  obtain ⟨W0, hW0⟩ : ∃ W0, W0 = ((w.alloc (.cells #[.int .i64 0, .bool false, .bool false, .bool false, .bool false, .bool false, .bool false, .bool false, .bool false, .bool false, .bool false, .bool false, .bool false, .bool false, .bool false, .bool false, .bool false] 57)).alloc (.cells #[.int .i64 0, .bool false, .bool false, .bool false, .bool false, .bool false, .bool false, .bool false, .bool false, .bool false, .bool false, .bool false, .bool false, .bool false, .bool false, .bool false, .bool false] 57)) := ⟨_, rfl⟩
  rw [← hW0] at HR HB HBL ⊢
  clear hW0
  obtain ⟨G, hG⟩ : ∃ G, G = w.heap.size := ⟨_, rfl⟩
  rw [← hG] at HR HB HBL ⊢
  have HG := Lib.hid hG
  clear hG
  go_wp2_with (first | (refine wpList_load_row rfl 57 (.tmp 4) rfl (G + 1) rfl 57 zeroC (0, 0) _ HB.out Tryd.underlying57 rfl slabSize ?_) | (refine wpList_store_row rfl 57 (.tmp 2) (.tmp 9) rfl G zeroC rfl rfl 57 zeroC HR.out slabSize rfl zeroC_slab.one ?_))
  refine bodyPost_ret (results_row_tmp rfl _ _ G 57 zeroC (0, 0) _ rfl (setRow_heap _ _ _ _ _ _ HR.out) Tryd.underlying57 rfl slabSize) rfl ⟨rfl, by rw [← HG.out]; exact below_setRow HBL.out (Nat.le_refl _) _⟩
/-- the blocks of a word, as far as place k -/
def partF (t k : Nat) : Nat → Bool := fun j => decide (j < k) && t.testBit j
theorem partF_snoc (t k : Nat) (j : Nat) : partF t (k + 1) j = if j = k then t.testBit k else partF t k j := by
  unfold partF
  by_cases e : j = k
  · subst e; simp
  · rw [if_neg e]
    congr 1
    rw [Bool.eq_iff_iff]; simp; omega
theorem mod_bit (t k : Nat) : (((t / 2 ^ k : Nat) : Int) % 2 == 1) = t.testBit k := by
  rw [Nat.testBit_eq_decide_div_mod_eq, Bool.eq_iff_iff]
  simp only [beq_iff_eq, decide_eq_true_eq]
  omega
theorem cnt_zero (f : Nat → Bool) : ∀ k, cntF f k = 0 ↔ ∀ j, j < k → f j = false
  | 0 => by simp [cntF]
  | k + 1 => by
    rw [cntF_snoc, Nat.add_eq_zero_iff, cnt_zero f k]
    constructor
    · rintro ⟨h1, h2⟩ j hj
      rcases Nat.lt_or_ge j k with h' | h'
      · exact h1 j h'
      · obtain rfl : j = k := by omega
        cases h : f j
        · rfl
        · rw [h] at h2; simp at h2
    · intro h
      exact ⟨fun j hj => h j (by omega), by rw [h k (by omega)]; simp⟩
theorem blk_later' {w w' : World} {g : Nat} {C : Array Value} (h : SlabAt w g C) (hb : Below w.heap.size w w') : SlabAt w' g C :=
  (hb.block g (by
    rcases Nat.lt_or_ge g w.heap.size with h' | h'
    · exact h'
    · unfold SlabAt at h; rw [Array.getElem?_eq_none h'] at h; simp at h)).trans h
theorem run_load_row {P : Program} {o : Oper} {a : Act} {w : World} (ty : TypeId) (x : Operand) (ho : o.op = .load ty x)
    (g : Nat) (hx : a.eval x = .pointer (some ⟨g, 0, none⟩)) (t : TypeId) (cs : Array Value) (fr : Nat × Nat) (d : TypeDesc) (hg : w.heap[g]? = some (.cells cs t fr))
    (hu : P.underlying ty = some d) (hd : (match d with | .struct _ | .array _ _ => true | _ => false) = true) (hi : (P.info? ty).map (·.size) = some cs.size) :
    (execOp a.eval o).run P w = .ok (.value (.agg cs)) w := by
  unfold execOp
  simp only [ho, hx, Instr.loadAt, Instr.sureAddr, Sem.run_bind, Sem.run_pure, Result.andThen_ok, run_loadVar_row w g t ty cs fr d hg hu hd hi]
theorem of_no {n : Nat} (h : ¬ rightP n) : SlabC zeroC (clsS n) (fun k => hasB n (k : Int)) := by
  have e : clsS n = 0 := by unfold clsS; rw [if_neg h]
  rw [e]
  exact zeroC_slab.ext fun j _ => (hasB_no h _).symm
theorem of_yes {n t c : Nat} {C : Array Value} (hr : rightP n) (hc : c = n / 65536) (ht : t = n % 65536) (hC : SlabC C (c : Int) (partF t 16)) : SlabC C (clsS n) (fun k => hasB n (k : Int)) := by
  have e : clsS n = (c : Int) := by unfold clsS; rw [if_pos hr, cls_div hr, hc]
  rw [e]
  refine hC.ext fun j hj => ?_
  rw [hasB_nat hr j hj, ht]
  unfold partF
  rw [tb_low hj]; simp [hj]
set_option maxHeartbeats 3200000 in
theorem of_small (n : Nat) (w : World) (h : n < 196608) :
    Calls Tryd.prog 33 #[.int .u64 n] w fun e w' => ∃ C, e = .returned (.tuple #[.agg C, .bool (decide (rightP n))]) ∧ SlabC C (clsS n) (fun k => hasB n (k : Int)) ∧ Below w.heap.size w w' := by
  have t1 : decide (196608 ≤ (n : Int)) = false := by simp; omega
  obtain ⟨hr, hb, hbel⟩ := of_begin w
  have HR := Lib.hid hr
  have HB := Lib.hid hb
  have HBL := Lib.hid hbel
  obtain ⟨c, hc⟩ : ∃ c, c = n / 65536 := ⟨_, rfl⟩
  obtain ⟨t, ht⟩ : ∃ t, t = n % 65536 := ⟨_, rfl⟩
  have hq : (n : Int) / 65536 = (c : Int) := by omega
  have hm : (n : Int) % 65536 = (t : Int) := by omega
  have hc2 : c ≤ 2 := by omega
  have ht2 : t < 65536 := by omega
  have HCT := Lib.hid (And.intro hc ht)
  have HM := Lib.hid hm
  clear hr hb hbel hc ht hm
  go_enter Tryd.func33, Tryd.ntmps33
  go_upto_region 2 with (fail)
  obtain ⟨W0, hW0⟩ : ∃ W0, W0 = ((w.alloc (.cells #[.int .i64 0, .bool false, .bool false, .bool false, .bool false, .bool false, .bool false, .bool false, .bool false, .bool false, .bool false, .bool false, .bool false, .bool false, .bool false, .bool false, .bool false] 57)).alloc (.cells #[.int .i64 0, .bool false, .bool false, .bool false, .bool false, .bool false, .bool false, .bool false, .bool false, .bool false, .bool false, .bool false, .bool false, .bool false, .bool false, .bool false, .bool false] 57)) := ⟨_, rfl⟩
  rw [← hW0] at HR HB HBL ⊢
  clear hW0
  obtain ⟨G, hG⟩ : ∃ G, G = w.heap.size := ⟨_, rfl⟩
  rw [← hG] at HR HB HBL ⊢
  have HG := Lib.hid hG
  clear hG
  have ⟨x0, x1, x2⟩ := HB.out.cells zeroC_slab
  have y2 := x2 0
  clear x1 x2
  go_upto_region 6 with (fail)
  have HB1 := Lib.hid (HB.out.set 0 (.int .i64 (c : Int)))
  have HC1 := Lib.hid ((zeroC_slab.setC (c : Int)).ext (g := partF t 0) (fun j _ => by unfold partF; simp))
  have HR1 := Lib.hid (HR.out.other ⟨G + 1, 0, none⟩ (by simp) (.int .i64 (c : Int)))
  have HBL1 := Lib.hid (HBL.out.setCell (p := ⟨G + 1, 0, none⟩) (by simp) (.int .i64 (c : Int)))
  clear x0 y2
  go_wp2
  go_loopw [5, 6] (fun x i wr => ∃ (k : Nat) (C : Array Value), k ≤ 16 ∧ i = .int .i64 k ∧ x = .int .u64 ((t / 2 ^ k : Nat) : Int) ∧ SlabAt wr (G + 1) C ∧ SlabC C (c : Int) (partF t k) ∧ (∀ j, j < k → t.testBit j = true → (j : Int) < blkN c) ∧ SlabAt wr G zeroC ∧ Below G w wr) (fun _ i _ => 16 - (intOf i).toNat)
  case atStart => exact ⟨0, _, Nat.zero_le _, rfl, by simp [HM.out], HB1.out, HC1.out, fun j hj => absurd hj (by omega), HR1.out, HBL1.out⟩
  case round =>
    obtain ⟨k, C, hk, rfl, rfl, hsa, hsc, hall, hra, hbw⟩ := hrel
    have HSA := Lib.hid hsa
    have HSC := Lib.hid hsc
    have HALL := Lib.hid hall
    have HRA := Lib.hid hra
    have HBW := Lib.hid hbw
    clear hsa hsc hall hra hbw
    by_cases hlt : k < 16
    · have ⟨z0, z1, z2⟩ := HSA.out.cells HSC.out
      have z3 := z1 k hlt
      have z4 := z2 (1 + k)
      have hbit := mod_bit t k
      have HHALF : Hid ((((t / 2 ^ k : Nat) : Int)) / 2 = ((t / 2 ^ (k + 1) : Nat) : Int)) := Lib.hid (by rw [Nat.pow_succ, ← Nat.div_div_eq_div_mul]; omega)
      have HXB : Hid (t / 2 ^ k < 65536) := Lib.hid (Nat.lt_of_le_of_lt (Nat.div_le_self _ _) ht2)
      clear z1 z2
      generalize partF t k k = old at *
      generalize t / 2 ^ k = x at *
      have hxb := HXB.out
      cases hb : t.testBit k
      · rw [hb] at hbit
        have HBT := Lib.hid hb
        clear hb
        go_wp2
        go_roundw
        case rel => exact ⟨k + 1, _, hlt, by go_num, by rw [HHALF.out], HSA.out.set (1 + k) (.bool false), HSC.out.setK k hlt false (fun j => by rw [partF_snoc, HBT.out]), (fun j hj h => by (rcases Nat.lt_or_ge j k with h' | h'); (exact HALL.out j h' h); (obtain rfl : j = k := by omega); (rw [HBT.out] at h; simp at h)), HRA.out.other ⟨G + 1, 1 + k, none⟩ (by simp) _, HBW.out.setCell (p := ⟨G + 1, 1 + k, none⟩) (by simp) _⟩
        case measure => simp [intOf]; omega
      · rw [hb] at hbit
        have HBT := Lib.hid hb
        clear hb
        obtain ⟨bb, hbb⟩ : ∃ bb, blkN (c : Int) = bb := ⟨_, rfl⟩
        have HBB := Lib.hid hbb
        by_cases hle : bb ≤ (k : Int)
        · have HNO : Hid (¬ rightP n) := Lib.hid (fun hr => by
            have hct := HCT.out
            have e : blkN (c : Int) = bb := HBB.out
            have hnb : n.testBit k = true := by rw [← tb_low hlt, ← hct.2]; exact HBT.out
            rcases (right_iff n).1 hr with e0 | ⟨e0, _⟩ | ⟨e0, _, hz⟩
            · rw [e0] at hnb; simp at hnb
            · obtain rfl : c = 1 := by omega
              have : bb = 16 := e.symm
              omega
            · obtain rfl : c = 2 := by omega
              have : bb = 4 := e.symm
              have h4 := hz k (by omega) hlt
              rw [hnb] at h4; simp at h4)
          have u1 : decide (bb ≤ (k : Int)) = true := by simpa using hle
          clear hbb hle
          go_wp2_with (first | (go_at_call 36; (with_reducible refine (rblocks_at _ bb _ HBB.out).mono ?_); rintro e w' ⟨rfl, rfl⟩) | (refine wpList_store_row rfl 57 (.tmp 2) (.tmp 39) rfl G zeroC rfl rfl 57 zeroC (HRA.out.other ⟨G + 1, 1 + k, none⟩ (by simp) _) slabSize rfl zeroC_slab.one ?_))
          refine bodyPost_ret (results_row_tmp rfl _ _ G 57 zeroC (0, 0) _ rfl (setRow_heap _ _ _ _ _ _ (HRA.out.other ⟨G + 1, 1 + k, none⟩ (by simp) _)) Tryd.underlying57 rfl slabSize) rfl ⟨zeroC, by rw [decide_eq_false HNO.out]; rfl, of_no HNO.out, by rw [← HG.out]; exact below_setRow (HBW.out.setCell (p := ⟨G + 1, 1 + k, none⟩) (by simp) _) (Nat.le_refl _) _⟩
        · have u1 : decide (bb ≤ (k : Int)) = false := by simpa using hle
          have HLE := Lib.hid hle
          clear hbb hle
          go_wp2_with (go_at_call 36; (with_reducible refine (rblocks_at _ bb _ HBB.out).mono ?_); rintro e w' ⟨rfl, rfl⟩)
          go_roundw
          case rel => exact ⟨k + 1, _, hlt, by go_num, by rw [HHALF.out], HSA.out.set (1 + k) (.bool true), HSC.out.setK k hlt true (fun j => by rw [partF_snoc, HBT.out]), (fun j hj h => by (rcases Nat.lt_or_ge j k with h' | h'); (exact HALL.out j h' h); (obtain rfl : j = k := by omega); (rw [HBB.out]; have := HLE.out; omega)), HRA.out.other ⟨G + 1, 1 + k, none⟩ (by simp) _, HBW.out.setCell (p := ⟨G + 1, 1 + k, none⟩) (by simp) _⟩
          case measure => simp [intOf]; omega
    · obtain rfl : k = 16 := by omega
      have hcs : (t = 0 ∧ c = 0) ∨ (t = 0 ∧ c ≠ 0) ∨ (t ≠ 0 ∧ c ≠ 0) ∨ (t ≠ 0 ∧ c = 0) := by omega
      have HT0 : Hid (cntF (partF t 16) 16 = 0 ↔ t = 0) := Lib.hid (by
        rw [cnt_zero]
        constructor
        · intro h0
          apply bits_eq
          intro i
          rw [Nat.zero_testBit]
          by_cases hi : i < 16
          · have := h0 i hi
            unfold partF at this
            simpa [hi] using this
          · exact Nat.testBit_lt_two_pow (Nat.lt_of_lt_of_le (show t < 2 ^ 16 by have : (2 : Nat) ^ 16 = 65536 := rfl; omega) (Nat.pow_le_pow_right (by omega) (by omega)))
        · rintro rfl j _
          unfold partF; simp)
      obtain ⟨q, hq'⟩ : ∃ q, cntF (partF t 16) 16 = q := ⟨_, rfl⟩
      rw [hq'] at HT0
      have HQ := Lib.hid hq'
      have HSZ : Hid ((Tryd.prog.info? 57).map (·.size) = some C.size) := Lib.hid (by rw [HSC.out.1]; exact slabSize)
      clear hq'
      rcases hcs with ⟨h1, h2⟩ | ⟨h1, h2⟩ | ⟨h1, h2⟩ | ⟨h1, h2⟩
      · have hq0 : ((q : Int) == 0) = true := by rw [beq_iff_eq]; have := HT0.out.2 h1; omega
        have hc0 : ((c : Int) == 0) = true := by rw [beq_iff_eq]; omega
        have HRT : Hid (rightP n) := Lib.hid (.inl (by have := HCT.out; omega))
        clear h1 h2
        go_wp2
        refine wp_region_held_drew (S := (fun W : World => SlabAt W (G + 1) C ∧ SlabAt W G zeroC ∧ Below G w W)) (by kernel_rfl) ?_ (fun hHeld => ?_)
        · (exact ⟨HSA.out, HRA.out, HBW.out.drew⟩)
        try (change wpAnyH _ _ _ _ _ _ _ _ (World.drew _))
        refine wpAnyH_take (i := 0) (v := (.agg C)) rfl (by kernel_rfl) (by kernel_rfl) (by kernel_rfl) (fun _ _ _ h => h) (Or.inl ⟨by rfl, ?_⟩) (by assumption) ?_
        · intro w hSw
          exact (run_load_row 57 (.tmp 4) rfl (G + 1) rfl 57 C (0, 0) _ hSw.1 Tryd.underlying57 rfl HSZ.out)
        (simp only [Act.put, List.getElem_toArray, List.getElem_cons_succ, List.getElem_cons_zero, List.setIfInBounds_toArray, List.set_cons_zero, List.set_cons_succ])
        refine wpAnyH_take (i := 3) (v := ?_) rfl (by kernel_rfl) (by kernel_rfl) (by kernel_rfl) (fun _ _ _ h => h) (Or.inl ⟨by rfl, ?_⟩) (by assumption) ?_
        rotate_left
        · intro w hSw
          go_simp
          try (with_reducible rfl)
        (simp only [Act.put, List.getElem_toArray, List.getElem_cons_succ, List.getElem_cons_zero, List.setIfInBounds_toArray, List.set_cons_zero, List.set_cons_succ])
        refine wpAnyH_take (i := 4) (v := ?_) rfl (by kernel_rfl) (by kernel_rfl) (by kernel_rfl) (fun _ _ _ h => h) (Or.inl ⟨by rfl, ?_⟩) (by assumption) ?_
        rotate_left
        · intro w hSw
          (have h0 := (hSw.1.cells HSC.out).1)
          go_simp
          try (with_reducible rfl)
        (simp only [Act.put, List.getElem_toArray, List.getElem_cons_succ, List.getElem_cons_zero, List.setIfInBounds_toArray, List.set_cons_zero, List.set_cons_succ])
        refine wpAnyH_take (i := 5) (v := ?_) rfl (by kernel_rfl) (by kernel_rfl) (by kernel_rfl) (fun _ _ _ h => h) (Or.inl ⟨by rfl, ?_⟩) (by assumption) ?_
        rotate_left
        · intro w hSw
          go_simp
          try (with_reducible rfl)
        (simp only [Act.put, List.getElem_toArray, List.getElem_cons_succ, List.getElem_cons_zero, List.setIfInBounds_toArray, List.set_cons_zero, List.set_cons_succ])
        refine wpAnyH_ready (rs := [1]) (by kernel_rfl) (by simp) ?_
        refine AllReadyH.cons rfl (fun K hK => ?_) AllReadyH.nil
        go_simp
        (go_wp2_with (go_at_call 47; (with_reducible refine (count_at C (c : Int) _ q _ HSC.out HQ.out).mono ?_); rintro e w6 ⟨rfl, hb6⟩; have HB6 := Lib.hid hb6; clear hb6))
        refine hK.out _ _ ?_ ?_
        · (exact ⟨blk_later' hHeld.1 HB6.out, blk_later' hHeld.2.1 HB6.out, hHeld.2.2.trans (HB6.out.mono (by rw [HG.out]; exact hHeld.2.2.size))⟩)
        intro hHeld
        clear hK K
        refine wpAnyH_take (i := 2) (v := ?_) rfl (by kernel_rfl) (by kernel_rfl) (by kernel_rfl) (fun _ _ _ h => h) (Or.inl ⟨by rfl, ?_⟩) (by assumption) ?_
        rotate_left
        · intro w hSw
          go_simp
          try (with_reducible rfl)
        (simp only [Act.put, List.getElem_toArray, List.getElem_cons_succ, List.getElem_cons_zero, List.setIfInBounds_toArray, List.set_cons_zero, List.set_cons_succ])
        refine wpAnyH_take (i := 6) (v := ?_) rfl (by kernel_rfl) (by kernel_rfl) (by kernel_rfl) (fun _ _ _ h => h) (Or.inl ⟨by rfl, ?_⟩) (by assumption) ?_
        rotate_left
        · intro w hSw
          go_simp
          try (with_reducible rfl)
        (simp only [Act.put, List.getElem_toArray, List.getElem_cons_succ, List.getElem_cons_zero, List.setIfInBounds_toArray, List.set_cons_zero, List.set_cons_succ])
        refine wpAnyH_done (by kernel_rfl) ?_ _
        obtain ⟨hs1, hs2, hs3⟩ := hHeld
        have HS1 := Lib.hid hs1
        have HS2 := Lib.hid hs2
        have HS3 := Lib.hid hs3
        clear hs1 hs2 hs3
        go_wp2_with (first | (refine wpList_load_row rfl 57 (.tmp 4) rfl (G + 1) rfl 57 C (0, 0) _ HS1.out Tryd.underlying57 rfl HSZ.out ?_) | (refine wpList_store_row rfl 57 (.tmp 2) (.tmp 48) rfl G C rfl rfl 57 zeroC HS2.out HSZ.out HSC.out.1.symm HSC.out.one ?_))
        refine bodyPost_ret (results_row_tmp rfl _ _ G 57 C (0, 0) _ rfl (setRow_heap _ _ _ _ _ _ HS2.out) Tryd.underlying57 rfl HSZ.out) rfl ⟨C, by rw [decide_eq_true HRT.out]; rfl, of_yes HRT.out HCT.out.1 HCT.out.2 HSC.out, by rw [← HG.out]; exact below_setRow HS3.out (Nat.le_refl _) _⟩
      · have hq0 : ((q : Int) == 0) = true := by rw [beq_iff_eq]; have := HT0.out.2 h1; omega
        have hc0 : ((c : Int) == 0) = false := by rw [beq_eq_false_iff_ne]; omega
        have HNO : Hid (¬ rightP n) := Lib.hid (by have := HCT.out; unfold rightP; omega)
        clear h1 h2
        go_wp2
        refine wp_region_held_drew (S := (fun W : World => SlabAt W (G + 1) C ∧ SlabAt W G zeroC ∧ Below G w W)) (by kernel_rfl) ?_ (fun hHeld => ?_)
        · (exact ⟨HSA.out, HRA.out, HBW.out.drew⟩)
        try (change wpAnyH _ _ _ _ _ _ _ _ (World.drew _))
        refine wpAnyH_take (i := 0) (v := (.agg C)) rfl (by kernel_rfl) (by kernel_rfl) (by kernel_rfl) (fun _ _ _ h => h) (Or.inl ⟨by rfl, ?_⟩) (by assumption) ?_
        · intro w hSw
          exact (run_load_row 57 (.tmp 4) rfl (G + 1) rfl 57 C (0, 0) _ hSw.1 Tryd.underlying57 rfl HSZ.out)
        (simp only [Act.put, List.getElem_toArray, List.getElem_cons_succ, List.getElem_cons_zero, List.setIfInBounds_toArray, List.set_cons_zero, List.set_cons_succ])
        refine wpAnyH_take (i := 3) (v := ?_) rfl (by kernel_rfl) (by kernel_rfl) (by kernel_rfl) (fun _ _ _ h => h) (Or.inl ⟨by rfl, ?_⟩) (by assumption) ?_
        rotate_left
        · intro w hSw
          go_simp
          try (with_reducible rfl)
        (simp only [Act.put, List.getElem_toArray, List.getElem_cons_succ, List.getElem_cons_zero, List.setIfInBounds_toArray, List.set_cons_zero, List.set_cons_succ])
        refine wpAnyH_take (i := 4) (v := ?_) rfl (by kernel_rfl) (by kernel_rfl) (by kernel_rfl) (fun _ _ _ h => h) (Or.inl ⟨by rfl, ?_⟩) (by assumption) ?_
        rotate_left
        · intro w hSw
          (have h0 := (hSw.1.cells HSC.out).1)
          go_simp
          try (with_reducible rfl)
        (simp only [Act.put, List.getElem_toArray, List.getElem_cons_succ, List.getElem_cons_zero, List.setIfInBounds_toArray, List.set_cons_zero, List.set_cons_succ])
        refine wpAnyH_take (i := 5) (v := ?_) rfl (by kernel_rfl) (by kernel_rfl) (by kernel_rfl) (fun _ _ _ h => h) (Or.inl ⟨by rfl, ?_⟩) (by assumption) ?_
        rotate_left
        · intro w hSw
          go_simp
          try (with_reducible rfl)
        (simp only [Act.put, List.getElem_toArray, List.getElem_cons_succ, List.getElem_cons_zero, List.setIfInBounds_toArray, List.set_cons_zero, List.set_cons_succ])
        refine wpAnyH_ready (rs := [1]) (by kernel_rfl) (by simp) ?_
        refine AllReadyH.cons rfl (fun K hK => ?_) AllReadyH.nil
        go_simp
        (go_wp2_with (go_at_call 47; (with_reducible refine (count_at C (c : Int) _ q _ HSC.out HQ.out).mono ?_); rintro e w6 ⟨rfl, hb6⟩; have HB6 := Lib.hid hb6; clear hb6))
        refine hK.out _ _ ?_ ?_
        · (exact ⟨blk_later' hHeld.1 HB6.out, blk_later' hHeld.2.1 HB6.out, hHeld.2.2.trans (HB6.out.mono (by rw [HG.out]; exact hHeld.2.2.size))⟩)
        intro hHeld
        clear hK K
        refine wpAnyH_take (i := 2) (v := ?_) rfl (by kernel_rfl) (by kernel_rfl) (by kernel_rfl) (fun _ _ _ h => h) (Or.inl ⟨by rfl, ?_⟩) (by assumption) ?_
        rotate_left
        · intro w hSw
          go_simp
          try (with_reducible rfl)
        (simp only [Act.put, List.getElem_toArray, List.getElem_cons_succ, List.getElem_cons_zero, List.setIfInBounds_toArray, List.set_cons_zero, List.set_cons_succ])
        refine wpAnyH_take (i := 6) (v := ?_) rfl (by kernel_rfl) (by kernel_rfl) (by kernel_rfl) (fun _ _ _ h => h) (Or.inl ⟨by rfl, ?_⟩) (by assumption) ?_
        rotate_left
        · intro w hSw
          go_simp
          try (with_reducible rfl)
        (simp only [Act.put, List.getElem_toArray, List.getElem_cons_succ, List.getElem_cons_zero, List.setIfInBounds_toArray, List.set_cons_zero, List.set_cons_succ])
        refine wpAnyH_done (by kernel_rfl) ?_ _
        obtain ⟨hs1, hs2, hs3⟩ := hHeld
        have HS1 := Lib.hid hs1
        have HS2 := Lib.hid hs2
        have HS3 := Lib.hid hs3
        clear hs1 hs2 hs3
        go_wp2_with (refine wpList_store_row rfl 57 (.tmp 2) (.tmp 47) rfl G zeroC rfl rfl 57 zeroC HS2.out slabSize rfl zeroC_slab.one ?_)
        refine bodyPost_ret (results_row_tmp rfl _ _ G 57 zeroC (0, 0) _ rfl (setRow_heap _ _ _ _ _ _ HS2.out) Tryd.underlying57 rfl slabSize) rfl ⟨zeroC, by rw [decide_eq_false HNO.out]; rfl, of_no HNO.out, by rw [← HG.out]; exact below_setRow HS3.out (Nat.le_refl _) _⟩
      · have hq0 : ((q : Int) == 0) = false := by rw [beq_eq_false_iff_ne]; intro e; exact h1 (HT0.out.1 (by omega))
        have hc0 : ((c : Int) == 0) = false := by rw [beq_eq_false_iff_ne]; omega
        have HRT : Hid (rightP n) := Lib.hid (by
          have hct := HCT.out
          have hall := HALL.out
          rw [right_iff]
          right
          obtain ⟨i, hi, hbi⟩ := low_ne.1 (show 0 < n % 65536 by omega)
          have hc12 : c = 1 ∨ c = 2 := by omega
          rcases hc12 with e | e
          · left; exact ⟨by omega, i, hi, hbi⟩
          · right
            refine ⟨by omega, ⟨i, hi, hbi⟩, fun j h4 h16 => ?_⟩
            cases hj : n.testBit j
            · rfl
            · have := hall j h16 (by rw [hct.2, tb_low h16]; exact hj)
              rw [e] at this
              have e4 : blkN ((2 : Nat) : Int) = 4 := rfl
              rw [e4] at this
              omega)
        clear h1 h2
        go_wp2
        refine wp_region_held_drew (S := (fun W : World => SlabAt W (G + 1) C ∧ SlabAt W G zeroC ∧ Below G w W)) (by kernel_rfl) ?_ (fun hHeld => ?_)
        · (exact ⟨HSA.out, HRA.out, HBW.out.drew⟩)
        try (change wpAnyH _ _ _ _ _ _ _ _ (World.drew _))
        refine wpAnyH_take (i := 0) (v := (.agg C)) rfl (by kernel_rfl) (by kernel_rfl) (by kernel_rfl) (fun _ _ _ h => h) (Or.inl ⟨by rfl, ?_⟩) (by assumption) ?_
        · intro w hSw
          exact (run_load_row 57 (.tmp 4) rfl (G + 1) rfl 57 C (0, 0) _ hSw.1 Tryd.underlying57 rfl HSZ.out)
        (simp only [Act.put, List.getElem_toArray, List.getElem_cons_succ, List.getElem_cons_zero, List.setIfInBounds_toArray, List.set_cons_zero, List.set_cons_succ])
        refine wpAnyH_take (i := 3) (v := ?_) rfl (by kernel_rfl) (by kernel_rfl) (by kernel_rfl) (fun _ _ _ h => h) (Or.inl ⟨by rfl, ?_⟩) (by assumption) ?_
        rotate_left
        · intro w hSw
          go_simp
          try (with_reducible rfl)
        (simp only [Act.put, List.getElem_toArray, List.getElem_cons_succ, List.getElem_cons_zero, List.setIfInBounds_toArray, List.set_cons_zero, List.set_cons_succ])
        refine wpAnyH_take (i := 4) (v := ?_) rfl (by kernel_rfl) (by kernel_rfl) (by kernel_rfl) (fun _ _ _ h => h) (Or.inl ⟨by rfl, ?_⟩) (by assumption) ?_
        rotate_left
        · intro w hSw
          (have h0 := (hSw.1.cells HSC.out).1)
          go_simp
          try (with_reducible rfl)
        (simp only [Act.put, List.getElem_toArray, List.getElem_cons_succ, List.getElem_cons_zero, List.setIfInBounds_toArray, List.set_cons_zero, List.set_cons_succ])
        refine wpAnyH_take (i := 5) (v := ?_) rfl (by kernel_rfl) (by kernel_rfl) (by kernel_rfl) (fun _ _ _ h => h) (Or.inl ⟨by rfl, ?_⟩) (by assumption) ?_
        rotate_left
        · intro w hSw
          go_simp
          try (with_reducible rfl)
        (simp only [Act.put, List.getElem_toArray, List.getElem_cons_succ, List.getElem_cons_zero, List.setIfInBounds_toArray, List.set_cons_zero, List.set_cons_succ])
        refine wpAnyH_ready (rs := [1]) (by kernel_rfl) (by simp) ?_
        refine AllReadyH.cons rfl (fun K hK => ?_) AllReadyH.nil
        go_simp
        (go_wp2_with (go_at_call 47; (with_reducible refine (count_at C (c : Int) _ q _ HSC.out HQ.out).mono ?_); rintro e w6 ⟨rfl, hb6⟩; have HB6 := Lib.hid hb6; clear hb6))
        refine hK.out _ _ ?_ ?_
        · (exact ⟨blk_later' hHeld.1 HB6.out, blk_later' hHeld.2.1 HB6.out, hHeld.2.2.trans (HB6.out.mono (by rw [HG.out]; exact hHeld.2.2.size))⟩)
        intro hHeld
        clear hK K
        refine wpAnyH_take (i := 2) (v := ?_) rfl (by kernel_rfl) (by kernel_rfl) (by kernel_rfl) (fun _ _ _ h => h) (Or.inl ⟨by rfl, ?_⟩) (by assumption) ?_
        rotate_left
        · intro w hSw
          go_simp
          try (with_reducible rfl)
        (simp only [Act.put, List.getElem_toArray, List.getElem_cons_succ, List.getElem_cons_zero, List.setIfInBounds_toArray, List.set_cons_zero, List.set_cons_succ])
        refine wpAnyH_take (i := 6) (v := ?_) rfl (by kernel_rfl) (by kernel_rfl) (by kernel_rfl) (fun _ _ _ h => h) (Or.inl ⟨by rfl, ?_⟩) (by assumption) ?_
        rotate_left
        · intro w hSw
          go_simp
          try (with_reducible rfl)
        (simp only [Act.put, List.getElem_toArray, List.getElem_cons_succ, List.getElem_cons_zero, List.setIfInBounds_toArray, List.set_cons_zero, List.set_cons_succ])
        refine wpAnyH_done (by kernel_rfl) ?_ _
        obtain ⟨hs1, hs2, hs3⟩ := hHeld
        have HS1 := Lib.hid hs1
        have HS2 := Lib.hid hs2
        have HS3 := Lib.hid hs3
        clear hs1 hs2 hs3
        go_wp2_with (first | (refine wpList_load_row rfl 57 (.tmp 4) rfl (G + 1) rfl 57 C (0, 0) _ HS1.out Tryd.underlying57 rfl HSZ.out ?_) | (refine wpList_store_row rfl 57 (.tmp 2) (.tmp 48) rfl G C rfl rfl 57 zeroC HS2.out HSZ.out HSC.out.1.symm HSC.out.one ?_))
        refine bodyPost_ret (results_row_tmp rfl _ _ G 57 C (0, 0) _ rfl (setRow_heap _ _ _ _ _ _ HS2.out) Tryd.underlying57 rfl HSZ.out) rfl ⟨C, by rw [decide_eq_true HRT.out]; rfl, of_yes HRT.out HCT.out.1 HCT.out.2 HSC.out, by rw [← HG.out]; exact below_setRow HS3.out (Nat.le_refl _) _⟩
      · exfalso
        have hct := HCT.out
        obtain ⟨i, hi, hbi⟩ := low_ne.1 (show 0 < n % 65536 by omega)
        have := HALL.out i hi (by rw [hct.2, tb_low hi]; exact hbi)
        rw [h2] at this
        have e0 : blkN ((0 : Nat) : Int) = 0 := rfl
        rw [e0] at this
        omega
end Go.Proofs.YtkmkficnkiaajaaDoor
