/- CrcSums: THE WALK. -/
import Derived.Test.YtmhopnopdloedaaDoorZeros
namespace Go.Proofs.YtmhopnopdloedaaDoor
open Go Go.RowKit

theorem Bytes.row {w : World} {a : Option Addr} {n cap : Nat} {l : List Int} (h : Bytes w (.slice a n cap) l) (k : Nat) (hk : k < l.length) :
    ∃ b off, a = some ⟨b, off, none⟩ ∧ n = l.length ∧ w.cell? ⟨b, off + k, none⟩ = some (.int .u8 (l.getD k 0)) := by
  obtain ⟨_, _, ⟨rfl, _⟩ | ⟨b, off, cap, hv, hlc, hc⟩⟩ := h
  · simp at hk
  · simp only [Value.slice.injEq] at hv
    obtain ⟨rfl, rfl, rfl⟩ := hv
    exact ⟨b, off, rfl, rfl, hc k hk⟩
/-- what the row is behind k rounds -/
def part (a b c : List Int) (k j : Nat) : Value := .int .u8 (if j < k then bits .xor .u8 (bits .xor .u8 (a.getD j 0) (b.getD j 0)) (c.getD j 0) else 0)

theorem min4 (P : Program) (ts : Array TypeId) (t : TypeId) (x y z u : Nat) (W : World) :
    (Builtin.min_ ts t #[.int .i64 (x : Int), .int .i64 (y : Int), .int .i64 (z : Int), .int .i64 (u : Int)]).run P W = .ok (.int .i64 ((min (min (min x y) z) u : Nat) : Int)) W := by
  have e : ∀ p q : Nat, (if (q : Int) < p then (q : Int) else p) = ((min p q : Nat) : Int) := by intro p q; split <;> omega
  simp [Builtin.min_, Builtin.min2, -Int.ofNat_lt, e]
theorem part_step (a b c : List Int) (k j : Nat) {pa pb pc : Int} (ha : a.getD k 0 = pa) (hb : b.getD k 0 = pb) (hc : c.getD k 0 = pc) :
    (if j = k then Value.int .u8 (bits .xor .u8 (bits .xor .u8 pa pb) pc) else part a b c k j) = part a b c (k + 1) j := by
  subst ha hb hc
  unfold part
  by_cases e : j = k
  · subst e; simp
  · rw [if_neg e]
    by_cases h : j < k
    · rw [if_pos h, if_pos (by omega)]
    · rw [if_neg h, if_neg (by omega)]
theorem xor3_bytes {w : World} {g k : Nat} {a b c : List Int} (h : w.rowIs g 5 k (part a b c k)) (hk : k ≤ 140737488351232) : Bytes w (.slice (some ⟨g, 0, none⟩) k k) (xor3 a b c k) := by
  have hl : (xor3 a b c k).length = k := by simp [xor3]
  refine ⟨fun x hx => ?_, by rw [hl]; exact hk, .inr ⟨g, 0, k, by rw [hl], by rw [hl]; exact Nat.le_refl _, fun j hj => ?_⟩⟩
  · simp only [xor3, List.mem_map] at hx
    obtain ⟨i, _, rfl⟩ := hx
    exact u8_xor_bd _ _
  · rw [hl] at hj
    rw [Nat.zero_add, h.cell hj]
    simp [part, xor3, hj]
set_option maxHeartbeats 800000 in
theorem sums_walk (va vb vc : Value) (a b c : List Int) (w : World) (hT : Tab w) (hA : Bytes w va a) (hB : Bytes w vb b) (hC : Bytes w vc c) :
    Calls Tryd.prog 6 #[va, vb, vc] w fun e w' => e = .returned (.bool true) ∧ Below w.heap.size w w' := by
  obtain ⟨aa, ca, rfl⟩ := hA.slice
  obtain ⟨ab, cb, rfl⟩ := hB.slice
  obtain ⟨ac, cc, rfl⟩ := hC.slice
  have hma := hA.2.1
  have hmin : ∀ (ts : Array TypeId) (t : TypeId) (W : World), (Builtin.min_ ts t #[.int .i64 (a.length : Int), .int .i64 (b.length : Int), .int .i64 (c.length : Int), .int .i64 3000]).run Tryd.prog W = .ok (.int .i64 ((min (min (min a.length b.length) c.length) 3000 : Nat) : Int)) W := fun ts t W => min4 Tryd.prog ts t a.length b.length c.length 3000 W
  obtain ⟨n, hn, h1, h2, h3, h4⟩ : ∃ n : Nat, min (min (min a.length b.length) c.length) 3000 = n ∧ n ≤ a.length ∧ n ≤ b.length ∧ n ≤ c.length ∧ n ≤ 3000 := ⟨_, rfl, by omega, by omega, by omega, by omega⟩
  rw [hn] at hmin
  clear hn
  have hmk := run_make_row' (P := Tryd.prog) 23 5 (.int .u8 0) 1 Tryd.underlying23 (by kernel_rfl) rfl .i64 .i64 n (by omega) (by omega)
  go_enter Tryd.func6, Tryd.ntmps6
  go_upto_region 5 with (go_at_call 9; refine (alive_at hT).mono ?_; rintro e w1 ⟨rfl, hb⟩)
  clear hmin hmk
  have hb2 : Below w.heap.size w (w1.alloc (.cells (madeCells #[.int .u8 0] n) 5)) := hb.alloc hb.size _
  have hrow : (w1.alloc (.cells (madeCells #[.int .u8 0] n) 5)).rowIs w1.heap.size 5 n (part a b c 0) := (World.rowIs_made w1 _ n 5).congr (fun j hj => by simp [part])
  have hg : w.heap.size ≤ w1.heap.size := hb.size
  generalize w1.alloc (.cells (madeCells #[.int .u8 0] n) 5) = W2 at *
  generalize w1.heap.size = g at *
  clear hb w1
  have hA0 := Lib.hid hA
  have hB0 := Lib.hid hB
  have hC0 := Lib.hid hC
  have HT := Lib.hid hT
  clear hA hB hC hT
  go_wp2
  go_loopw [23] (fun i wr => ∃ k : Nat, k ≤ n ∧ i = .int .i64 k ∧ wr.rowIs g 5 n (part a b c k) ∧ Below w.heap.size w wr) (fun i _ => n - (intOf i).toNat)
  case atStart => exact ⟨0, Nat.zero_le _, rfl, hrow, hb2⟩
  case round =>
    obtain ⟨k, hk, rfl, hr, hbw⟩ := hrel
    by_cases hlt : k < n
    · obtain ⟨ba, oa, rfl, _, hca⟩ := (hA0.out.below hbw).row k (by omega)
      obtain ⟨bb, ob, rfl, _, hcb⟩ := (hB0.out.below hbw).row k (by omega)
      obtain ⟨bc, oc, rfl, _, hcc⟩ := (hC0.out.below hbw).row k (by omega)
      have hold := hr.cell hlt
      have hfz := hr.frozen k
      have HR := Lib.hid hr
      clear hr
      generalize hpa : a.getD k 0 = pa at *
      generalize hpb : b.getD k 0 = pb at *
      generalize hpc : c.getD k 0 = pc at *
      have PA := Lib.hid hpa
      have PB := Lib.hid hpb
      have PC := Lib.hid hpc
      clear hpa hpb hpc
      go_wp2
      go_region
      go_wp2
      go_roundw
      case rel => exact ⟨k + 1, by omega, by go_num, ((HR.out.set k _).drew).congr (fun j hj => part_step a b c k j PA.out PB.out PC.out), Below.drew (hbw.setCell (p := ⟨g, k, none⟩) hg _)⟩
      case measure => simp [intOf]; omega
    · obtain rfl : k = n := by omega
      have hT := HT.out.below hbw
      have hx : Bytes wr (.slice (some ⟨g, 0, none⟩) k k) (xor3 a b c k) := xor3_bytes hr (by omega)
      have ea := (hA0.out.below hbw).take k h1
      have eb := (hB0.out.below hbw).take k h2
      have ec := (hC0.out.below hbw).take k h3
      have la : (k : Int) ≤ ca := by have := hA0.out.cap_le; omega
      have lb : (k : Int) ≤ cb := by have := hB0.out.cap_le; omega
      have lc : (k : Int) ≤ cc := by have := hC0.out.cap_le; omega
      have c1 : Hid (∀ m, Calls Tryd.prog 12 #[.slice (some ⟨g, 0, none⟩) k k] (wr.drewN m) fun e w' => e = .returned (.int .u32 (next 0 (xor3 a b c k))) ∧ wr.drewN m = w') := fun m => sum_calls _ _ _ hT hx
      have c2 : Hid (∀ m, Calls Tryd.prog 12 #[.slice aa k ca] (wr.drewN m) fun e w' => e = .returned (.int .u32 (next 0 (a.take k))) ∧ wr.drewN m = w') := fun m => sum_calls _ _ _ hT ea
      have c3 : Hid (∀ m, Calls Tryd.prog 12 #[.slice ab k cb] (wr.drewN m) fun e w' => e = .returned (.int .u32 (next 0 (b.take k))) ∧ wr.drewN m = w') := fun m => sum_calls _ _ _ hT eb
      have c4 : Hid (∀ m, Calls Tryd.prog 12 #[.slice ac k cc] (wr.drewN m) fun e w' => e = .returned (.int .u32 (next 0 (c.take k))) ∧ wr.drewN m = w') := fun m => sum_calls _ _ _ hT ec
      have key := next_three a b c k h1 h2 h3 hA0.out.1 hB0.out.1 hC0.out.1
      have KEY := Lib.hid key
      clear key hx ea eb ec hT hr
      generalize next 0 (xor3 a b c k) = x at *
      generalize next 0 (a.take k) = xa at *
      generalize next 0 (b.take k) = xb at *
      generalize next 0 (c.take k) = xc at *
      go_wp2
      go_quiet ((first | (go_at_call 12; refine Calls.quiet_of_eq (c1.out _)) | (go_at_call 12; refine Calls.quiet_of_eq (c2.out _)) | (go_at_call 12; refine Calls.quiet_of_eq (c3.out _)) | (go_at_call 12; refine Calls.quiet_of_eq (c4.out _))))
      go_wp2
      go_ret
      exact ⟨ret_bool (by rw [KEY.out]; simp), ⟨hbw.os, hbw.tape, hbw.output, hbw.size, hbw.block⟩⟩
theorem sums_walk' (va : Value) (a : List Int) {w : World} (hA : Bytes w va a) (vb : Value) (b : List Int) (hB : Bytes w vb b) (vc : Value) (c : List Int) (hC : Bytes w vc c) (hT : Tab w) :
    Calls Tryd.prog 6 #[va, vb, vc] w fun e w' => e = .returned (.bool true) ∧ Below w.heap.size w w' := sums_walk va vb vc a b c w hT hA hB hC
end Go.Proofs.YtmhopnopdloedaaDoor
