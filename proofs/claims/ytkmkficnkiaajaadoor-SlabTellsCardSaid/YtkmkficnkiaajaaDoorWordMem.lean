/- WORD: the word at a place of bytes, and bytes with another one there, the program's. -/
import Derived.Test.YtkmkficnkiaajaaDoorRows
import Derived.Test.YtkmkficnkiaajaaDoorLe
import Derived.Test.YtkmkficnkiaajaaDoorZeros
import Derived.Laws.CopyOwn
import Derived.Laws.ShiftsVarLaws
namespace Go.Proofs.YtkmkficnkiaajaaDoor
open Go Go.RowKit

/-- a place where a word stands -/
def hereP (len : Nat) (at' : Int) : Prop := 0 ≤ at' ∧ at' % 8 = 0 ∧ at' + 8 ≤ len
instance (len : Nat) (at' : Int) : Decidable (hereP len at') := by unfold hereP; infer_instance
theorem here_calls (a : Option Addr) (len cap : Nat) (at' : Int) (w : World) (hl : len ≤ 140737488351232) (ha : I64 at') :
    Calls Tryd.prog 43 #[.slice a len cap, .int .i64 at'] w fun e w' => e = .returned (.bool (decide (hereP len at'))) ∧ w = w' := by
  unfold I64 at ha
  have HA := Lib.hid ha
  clear ha
  have hc : at' < 0 ∨ (0 ≤ at' ∧ at' % 8 ≠ 0) ∨ (0 ≤ at' ∧ at' % 8 = 0) := by omega
  rcases hc with h | ⟨h, h'⟩ | ⟨h, h'⟩
  · have e : decide (hereP len at') = false := decide_eq_false (by unfold hereP; omega)
    rw [e]
    clear e
    go_enter Tryd.func43, Tryd.ntmps43
    go_wp2
    go_ret
    exact ⟨rfl, rfl⟩
  · have e : decide (hereP len at') = false := decide_eq_false (by unfold hereP; omega)
    have t1 : (at' % 8 == 0) = false := by simpa using h'
    rw [e]
    clear e h'
    go_enter Tryd.func43, Tryd.ntmps43
    go_wp2
    go_ret
    exact ⟨rfl, rfl⟩
  · have e : decide (hereP len at') = decide (at' ≤ (len : Int) - 8) := by
      rw [Bool.eq_iff_iff]
      simp only [decide_eq_true_eq]
      unfold hereP
      omega
    have t1 : (at' % 8 == 0) = true := by simpa using h'
    rw [e]
    clear e h'
    go_enter Tryd.func43, Tryd.ntmps43
    go_wp2
    go_ret
    exact ⟨rfl, rfl⟩
theorem get_out (v : Value) (l : List Int) (at' : Int) (w : World) (hI : Ints .u8 w v l) (ha : I64 at') (h : ¬ hereP l.length at') :
    Calls Tryd.prog 21 #[v, .int .i64 at'] w fun e w' => e = .returned (.tuple #[.int .u64 0, .bool false]) ∧ w = w' := by
  obtain ⟨a, cap, rfl⟩ := hI.slice
  have hl := hI.2.1
  go_enter Tryd.func21, Tryd.ntmps21
  go_wp2_with (go_at_call 43; refine (here_calls _ _ _ _ _ hl ha).mono ?_; rintro e w' ⟨rfl, rfl⟩; rw [decide_eq_false h])
  go_ret2
  exact ⟨rfl, rfl⟩
theorem or_num (x c : Int) (k : Nat) (hx0 : 0 ≤ x) (hx1 : x < 256 ^ k) (hc0 : 0 ≤ c) (hc1 : c ≤ 255) (hk : k < 8) :
    bits .or .u64 x (IntKind.u64.wrap (c * 2 ^ (8 * k))) = x + c * 256 ^ k := by
  have hp : (2 : Nat) ^ (8 * k) ≤ 2 ^ 56 := Nat.pow_le_pow_right (by omega) (by omega)
  have e2 : (2 : Int) ^ (8 * k) = ((2 ^ (8 * k) : Nat) : Int) := by rw [Int.natCast_pow]; rfl
  have e3 : (256 : Int) ^ k = ((2 ^ (8 * k) : Nat) : Int) := by rw [← e2, Int.pow_mul]; rfl
  rw [e3] at hx1 ⊢
  rw [e2]
  obtain ⟨X, rfl⟩ := Int.eq_ofNat_of_zero_le hx0
  obtain ⟨C, rfl⟩ := Int.eq_ofNat_of_zero_le hc0
  have hX : X < 2 ^ (8 * k) := by exact_mod_cast hx1
  have hC : C * 2 ^ (8 * k) ≤ 255 * 2 ^ (8 * k) := Nat.mul_le_mul_right _ (by omega)
  have hm : IntKind.u64.wrap ((C : Int) * ((2 ^ (8 * k) : Nat) : Int)) = ((2 ^ (8 * k) * C : Nat) : Int) := by
    rw [← Int.natCast_mul, IntKind.wrap_u64, Nat.mul_comm]
    generalize 2 ^ (8 * k) = p at *
    rw [Nat.mul_comm] at hC
    omega
  rw [hm, u64_or_nat X _ (by omega) (by rw [Nat.mul_comm]; omega), Nat.or_comm, ← Nat.two_pow_add_eq_or_of_lt hX, ← Int.natCast_mul]
  rw [Nat.mul_comm C]
  omega
set_option maxHeartbeats 800000 in
theorem get_in (v : Value) (l : List Int) (at' : Nat) (w : World) (hI : Ints .u8 w v l) (h : hereP l.length (at' : Int)) :
    Calls Tryd.prog 21 #[v, .int .i64 (at' : Int)] w fun e w' => e = .returned (.tuple #[.int .u64 (wordAt l at'), .bool true]) ∧ w = w' := by
  obtain ⟨a, cap, rfl⟩ := hI.slice
  have hl := hI.2.1
  have h8 : at' + 8 ≤ l.length := by unfold hereP at h; omega
  have hcap := hI.cap_le
  have hbd := hI.bd
  obtain ⟨b, off, rfl, hcs⟩ := hI.cells (by omega)
  have HB := Lib.hid hbd
  have HC := Lib.hid hcs
  have HH := Lib.hid h
  have HI6 : Hid (I64 (at' : Int)) := Lib.hid (by unfold I64; omega)
  clear hI hbd hcs h
  have HFIN : Hid (wordAt l at' = leW ((l.drop at').take 8)) := Lib.hid rfl
  have HSTEP : Hid (∀ k, k < 8 → leW ((l.drop at').take (k + 1)) = leW ((l.drop at').take k) + l.getD (at' + k) 0 * 256 ^ k) := Lib.hid (fun k hk => word_step l at' k h8 hk)
  have HLOW : Hid (∀ k, k < 8 → 0 ≤ leW ((l.drop at').take k) ∧ leW ((l.drop at').take k) < 256 ^ k) := Lib.hid (fun k hk => by
    have h1 := leW_bd ((l.drop at').take k) (fun c hc => HB.out c (List.mem_of_mem_drop (List.mem_of_mem_take hc)))
    have h2 : ((l.drop at').take k).length = k := by rw [List.length_take, List.length_drop]; omega
    rwa [h2] at h1)
  have HBD : Hid (∀ k, k < 8 → 0 ≤ l.getD (at' + k) 0 ∧ l.getD (at' + k) 0 ≤ 255) := Lib.hid (fun k hk => at_bd HB.out _ (by omega))
  go_enter Tryd.func21, Tryd.ntmps21
  go_wp2_with (go_at_call 43; refine (here_calls _ _ _ _ _ hl HI6.out).mono ?_; rintro e w' ⟨rfl, rfl⟩; rw [decide_eq_true HH.out])
  go_loop [6, 19] (fun x i => ∃ k : Nat, k ≤ 8 ∧ i = .int .i64 k ∧ x = .int .u64 (leW ((l.drop at').take k))) (fun _ i => 8 - (intOf i).toNat)
  case atStart => exact ⟨0, Nat.zero_le _, rfl, rfl⟩
  case round =>
    obtain ⟨k, hk, rfl, rfl⟩ := hrel
    by_cases hlt : k < 8
    · have hcell := HC.out (at' + k) (by omega)
      rw [← Nat.add_assoc] at hcell
      have ⟨c0, c1⟩ := HBD.out k hlt
      have ⟨x0, x1⟩ := HLOW.out k hlt
      have HS := Lib.hid (HSTEP.out k hlt)
      generalize l.getD (at' + k) 0 = c at *
      generalize leW ((l.drop at').take k) = x at *
      have HX := Lib.hid (or_num x c k x0 x1 c0 c1 hlt)
      clear x0 x1
      go_wp2
      go_round
      case rel => exact ⟨k + 1, hlt, by go_num, by rw [HS.out, HX.out]⟩
      case measure => simp [intOf]; omega
    · obtain rfl : k = 8 := by omega
      go_wp2
      go_ret2
      exact ⟨by rw [HFIN.out]; rfl, rfl⟩
/-- a row that was just laid, as one's own -/
theorem Own.ofRow {k : IntKind} {e : TypeId} {w : World} {base g : Nat} {l : List Int} (h : w.heap[g]? = some (.cells ((l.map (Value.int k)).toArray) e (0, 0))) (hb : base ≤ g) (hw : ∀ c ∈ l, (Lit.int k c).wf = true) (hl : l.length ≤ maxLen) :
    Own k e w base (.slice (some ⟨g, 0, none⟩) l.length l.length) l :=
  ⟨⟨by simp, .inr ⟨g, l.length, _, rfl, hb, h, by omega, hl, by simp, by rw [Nat.mul_one]; exact List.take_of_length_le (by simp)⟩⟩, hw⟩
theorem Own.row_heap {k : IntKind} {e : TypeId} {w : World} {base g n cap : Nat} {l : List Int} (h : Own k e w base (.slice (some ⟨g, 0, none⟩) n cap) l) (hn : n = l.length) (j : Nat) (hj : j < n) :
    w.cell? ⟨g, j, none⟩ = some (.int k (l.getD j 0)) := by
  subst hn
  obtain ⟨g', m, f, he, hb, hm, hr, hf⟩ := row_of_own h.1 (by omega)
  simp only [Value.slice.injEq, Option.some.injEq, Addr.mk.injEq, and_true, true_and] at he
  obtain ⟨rfl, rfl⟩ := he
  rw [hr.cell (by omega), hf j hj]
theorem byte_num (n : Int) (k : Nat) : IntKind.u8.wrap (n / 2 ^ (8 * k)) = n / 256 ^ k % 256 := by
  have e : (256 : Int) ^ k = 2 ^ (8 * k) := by rw [Int.pow_mul]; rfl
  rw [e]
  simp [IntKind.wrap, IntKind.bits, IntKind.signed]
/-- 'make' and 'copy' of the same bytes: a row of one's own with them -/
theorem put_pre (l : List Int) : splice (madeCells #[Value.int .u8 0] l.length).toList 0 (l.map (Value.int .u8)) = l.map (Value.int .u8) := by
  have h : (madeCells #[Value.int .u8 0] l.length).toList.length = l.length := by simp [madeCells]
  unfold splice
  rw [List.take_zero, List.nil_append, List.drop_of_length_le (by simp [madeCells]), List.append_nil]
/-- 'make([]T, n)': nothing but 0 -/
theorem made_at (k : IntKind) (n j : Nat) (hj : j < n) : (madeCells #[Value.int k 0] n)[j]? = some (.int k ((List.replicate n (0 : Int)).getD j 0)) := by
  rw [← Array.getElem?_toList, toList_madeCells_one]
  simp [hj]
theorem Ints.zeros (k : IntKind) (hk : (Lit.int k 0).wf = true) (e : TypeId) (w : World) (n : Nat) (hn : n ≤ 140737488351232) :
    Ints k (w.alloc (.cells (madeCells #[Value.int k 0] n) e)) (.slice (some ⟨w.heap.size, 0, none⟩) n n) (List.replicate n 0) := by
  have h := Ints.ofRow (k := k) (w := w.alloc (.cells (madeCells #[Value.int k 0] n) e)) (l := List.replicate n 0) (cap := n) (heap_alloc_new w _) (fun c hc => by rw [(List.mem_replicate.1 hc).2]; exact hk) (by simpa using hn) (by simp) (fun j hj => made_at k n j (by simpa using hj))
  simpa using h
theorem Ints.from_cells {k : IntKind} {w : World} {a : Option Addr} {n cap : Nat} {l : List Int} (h : Ints k w (.slice a n cap) l) (h0 : 0 < l.length) : ∃ ad, a = some ad ∧ ∀ j v, (l.map (Value.int k))[j]? = some v → w.cell? (ad.add j) = some v := by
  obtain ⟨b, off, rfl, hc⟩ := h.cells h0
  refine ⟨_, rfl, fun j v hj => ?_⟩
  have hlt : j < l.length := by
    rcases Nat.lt_or_ge j l.length with h' | h'
    · exact h'
    · simp [h'] at hj
  rw [Go.WideShapes.add_plain, hc j hlt]
  simp [hlt] at hj ⊢
  exact hj
set_option maxHeartbeats 1600000 in
theorem put_calls (v : Value) (l : List Int) (at' n : Int) (w : World) (hI : Ints .u8 w v l) (ha : I64 at') (hn : W64 n) :
    Calls Tryd.prog 20 #[v, .int .i64 at', .int .u64 n] w fun e w' => ∃ x, e = .returned (.tuple #[x, .bool (decide (hereP l.length at'))]) ∧ Own .u8 5 w' w.heap.size x (if hereP l.length at' then putL l at'.toNat n else l) ∧ Below w.heap.size w w' := by
  obtain ⟨a, cap, rfl⟩ := hI.slice
  have hl := hI.2.1
  have HA := Lib.hid ha
  have HN := Lib.hid hn
  have hmk := run_make_row' (P := Tryd.prog) 30 5 (.int .u8 0) 1 Tryd.underlying30 (by kernel_rfl) rfl .i64 .i64 l.length (by omega) (by omega)
  have hb0 := (Below.refl w.heap.size w).alloc (Nat.le_refl _) (.cells (madeCells #[Value.int .u8 0] l.length) 5)
  have HG : Hid ((w.alloc (.cells (madeCells #[Value.int .u8 0] l.length) 5)).heap[w.heap.size]? = some (.cells (madeCells #[Value.int .u8 0] l.length).toList.toArray 5 (0, 0))) := Lib.hid (by simpa using heap_alloc_new w _)
  have HI0 := Lib.hid (hI.below hb0)
  have HB0 := Lib.hid hb0
  have HWF := Lib.hid hI.1
  have HPRE := Lib.hid (put_pre l)
  clear hI ha hn hb0
  by_cases hh : hereP l.length at'
  · rw [decide_eq_true hh, if_pos hh]
    obtain ⟨q, rfl⟩ : ∃ q : Nat, at' = q := ⟨at'.toNat, by unfold hereP at hh; omega⟩
    have h8 : q + 8 ≤ l.length := by unfold hereP at hh; omega
    have HH := Lib.hid hh
    have HPUT : Hid (putL l (q : Int).toNat n = l.take q ++ byL 8 n ++ l.drop (q + 8)) := Lib.hid rfl
    have HSTEP : Hid (∀ k, k < 8 → (l.take q ++ byL k n ++ l.drop (q + k)).set (q + k) (n / 256 ^ k % 256) = l.take q ++ byL (k + 1) n ++ l.drop (q + (k + 1))) := Lib.hid (fun k hk => put_step l q k n h8 hk)
    have HLEN : Hid (∀ k, k ≤ 8 → (l.take q ++ byL k n ++ l.drop (q + k)).length = l.length) := Lib.hid (fun k hk => by simp [byL_length]; omega)
    have H0 : Hid (l.take q ++ byL 0 n ++ l.drop (q + 0) = l) := Lib.hid (by simp [byL])
    clear hh
    go_enter Tryd.func20, Tryd.ntmps20
    go_wp2_with (first | (go_at_call 43; refine (here_calls _ _ _ _ _ hl HA.out).mono ?_; rintro e w' ⟨rfl, rfl⟩; rw [decide_eq_true HH.out]) | (refine wpList_copy_splice rfl (.tmp 13) (.tmp 14) 30 30 rfl 5 Tryd.underlying30 (by kernel_rfl) _ _ l.length l.length l.length cap rfl rfl w.heap.size 0 _ 5 HG.out (l.map (Value.int .u8)) (by simp) ?c1 (by simp [madeCells]) (one_cells _ _) w.heap.size w HB0.out (Nat.le_refl _) ?_; (case c1 => (intro h0; exact ⟨rfl, HI0.out.from_cells (by simpa using h0)⟩)); intro w2 hg2 hb2))
    have HOW : Hid (Own .u8 5 w2 w.heap.size (.slice (some ⟨w.heap.size, 0, none⟩) l.length l.length) l) := Lib.hid (by
      have h := hg2.out
      rw [HPRE.out] at h
      exact Own.ofRow h (Nat.le_refl _) HWF.out (by simp [maxLen]; omega))
    have HB2 := Lib.hid hb2
    clear hg2 hb2 HG HI0 HB0 HPRE hmk
    go_loopw [21] (fun i wr => ∃ k : Nat, k ≤ 8 ∧ i = .int .i64 k ∧ Own .u8 5 wr w.heap.size (.slice (some ⟨w.heap.size, 0, none⟩) l.length l.length) (l.take q ++ byL k n ++ l.drop (q + k)) ∧ Below w.heap.size w wr) (fun i _ => 8 - (intOf i).toNat)
    case atStart => exact ⟨0, Nat.zero_le _, rfl, by rw [H0.out]; exact HOW.out, HB2.out⟩
    case round =>
      obtain ⟨k, hk, rfl, hown, hbw⟩ := hrel
      have HOWN := Lib.hid hown
      have HBW := Lib.hid hbw
      clear hown hbw
      by_cases hlt : k < 8
      · have hcell := HOWN.out.row_heap (HLEN.out k hk).symm (q + k) (by omega)
        have hfz : wr.frozen? ⟨w.heap.size, q + k, none⟩ = false := by
          have h := HOWN.out.1
          rw [HLEN.out k hk] at h
          exact h.frozenAt _
        have hby := byte_num n k
        have HS := Lib.hid (HSTEP.out k hlt)
        have HLK := Lib.hid (HLEN.out k hk)
        generalize (l.take q ++ byL k n ++ l.drop (q + k)).getD (q + k) 0 = y at *
        go_wp2
        go_roundw
        case rel => exact ⟨k + 1, hlt, by go_num, by rw [← HS.out]; exact HOWN.out.stored HLK.out.symm (q + k) _ (wf_u8 (by omega)), Own.stored_below HBW.out HOWN.out HLK.out.symm (by omega) _ _⟩
        case measure => simp [intOf]; omega
      · obtain rfl : k = 8 := by omega
        go_wp2
        go_ret2
        exact ⟨_, rfl, by rw [HPUT.out]; exact HOWN.out, HBW.out⟩
  · rw [decide_eq_false hh, if_neg hh]
    have HH := Lib.hid hh
    clear hh
    go_enter Tryd.func20, Tryd.ntmps20
    go_wp2_with (first | (go_at_call 43; refine (here_calls _ _ _ _ _ hl HA.out).mono ?_; rintro e w' ⟨rfl, rfl⟩; rw [decide_eq_false HH.out]) | (refine wpList_copy_splice rfl (.tmp 13) (.tmp 14) 30 30 rfl 5 Tryd.underlying30 (by kernel_rfl) _ _ l.length l.length l.length cap rfl rfl w.heap.size 0 _ 5 HG.out (l.map (Value.int .u8)) (by simp) ?c1 (by simp [madeCells]) (one_cells _ _) w.heap.size w HB0.out (Nat.le_refl _) ?_; (case c1 => (intro h0; exact ⟨rfl, HI0.out.from_cells (by simpa using h0)⟩)); intro w2 hg2 hb2))
    go_ret2
    refine ⟨_, rfl, ?_, hb2⟩
    have h := hg2.out
    rw [HPRE.out] at h
    exact Own.ofRow h (Nat.le_refl _) HWF.out (by simp [maxLen]; omega)
end Go.Proofs.YtkmkficnkiaajaaDoor
