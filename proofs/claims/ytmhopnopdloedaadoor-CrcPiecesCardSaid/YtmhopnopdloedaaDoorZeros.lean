/- CrcZeros: THE WALK. -/
import Derived.Test.YtmhopnopdloedaaDoorLin
import Derived.Deep.Cut
import Derived.Deep.OwnRows
namespace Go.Proofs.YtmhopnopdloedaaDoor
open Go Go.RowKit

theorem Bytes.take {w : World} {a : Option Addr} {n cap : Nat} {l : List Int} (h : Bytes w (.slice a n cap) l) (m : Nat) (hm : m ≤ l.length) : Bytes w (.slice a m cap) (l.take m) := by
  obtain ⟨h1, h2, h3⟩ := h
  have ht : (l.take m).length = m := by rw [List.length_take]; omega
  refine ⟨fun c hc => h1 c (List.mem_of_mem_take hc), by rw [ht]; omega, ?_⟩
  rcases h3 with ⟨rfl, a, cap, hv⟩ | ⟨b, off, cap, hv, hlc, hc⟩
  · simp only [Value.slice.injEq] at hv
    obtain ⟨rfl, rfl, rfl⟩ := hv
    simp only [List.length_nil, Nat.le_zero] at hm; subst hm
    exact .inl ⟨by simp, _, _, rfl⟩
  · simp only [Value.slice.injEq] at hv
    obtain ⟨rfl, rfl, rfl⟩ := hv
    refine .inr ⟨b, off, _, by rw [ht], by rw [ht]; omega, fun j hj => ?_⟩
    rw [ht] at hj
    rw [hc j (by omega)]
    simp [List.getD, hj]

theorem Bytes.cap_le {w : World} {a : Option Addr} {n cap : Nat} {l : List Int} (h : Bytes w (.slice a n cap) l) : l.length ≤ cap := by
  obtain ⟨_, _, ⟨rfl, a, cap, hv⟩ | ⟨b, off, cap, hv, hlc, _⟩⟩ := h
  · simp
  · simp only [Value.slice.injEq] at hv
    obtain ⟨rfl, rfl, rfl⟩ := hv
    exact hlc
theorem zero_bytes (w : World) (n : Nat) (h : n ≤ 140737488351232) : Bytes (w.alloc (.cells (madeCells #[.int .u8 0] n) 5)) (.slice (some ⟨w.heap.size, 0, none⟩) n n) (List.replicate n 0) := by
  have := Bytes.ofRow (l := List.replicate n 0) (cap := n) (heap_alloc_new w (.cells (madeCells #[.int .u8 0] n) 5)) (fun c hc => by rw [List.mem_replicate] at hc; omega) (by simpa using h) (by simp) (by
    intro j hj
    have hj' : j < n := by simpa using hj
    simp [madeCells, hj', Nat.mod_one])
  simpa using this
theorem zeros_key (x y : Int) (c : List Int) (hx : 0 ≤ x ∧ x ≤ 4294967295) (hy : 0 ≤ y ∧ y ≤ 4294967295) (h : ∀ k ∈ c, 0 ≤ k ∧ k ≤ 255) :
    bits .xor .u32 (next x c) (next y c) = bits .xor .u32 (next x (List.replicate c.length 0)) (next y (List.replicate c.length 0)) ∧ ((next x c == next y c) == (x == y)) = true := by
  constructor
  · rw [next_xor x y c hx hy h, next_xor x y _ hx hy (fun k hk => by rw [List.mem_replicate] at hk; omega), List.length_replicate]
  · by_cases e : x = y
    · subst e; simp
    · have : ¬ next x c = next y c := fun k => e (next_inj x y c hx hy h k)
      rw [beq_eq_false_iff_ne.2 e, beq_eq_false_iff_ne.2 this]; rfl
set_option maxHeartbeats 400000 in
theorem zeros_walk (va vb vc : Value) (a b c : List Int) (w : World) (hT : Tab w) (hA : Bytes w va a) (hB : Bytes w vb b) (hC : Bytes w vc c) :
    Calls Tryd.prog 7 #[va, vb, vc] w fun e w' => e = .returned (.bool true) ∧ Below w.heap.size w w' := by
  obtain ⟨aa, ca, rfl⟩ := hA.slice
  obtain ⟨ab, cb, rfl⟩ := hB.slice
  obtain ⟨ac, cc, rfl⟩ := hC.slice
  go_enter Tryd.func7, Tryd.ntmps7
  go_upto_region 4 with (go_at_call 9; refine (alive_at hT).mono ?_; rintro e w1 ⟨rfl, hb⟩)
  obtain ⟨n, hn, h1, h2, h3⟩ : ∃ n : Nat, (if (3000 : Int) < (if b.length < a.length then (b.length : Int) else a.length) then (3000 : Int) else if b.length < a.length then (b.length : Int) else (a.length : Int)) = (n : Int) ∧ n ≤ a.length ∧ n ≤ b.length ∧ n ≤ 3000 := by
    refine ⟨min 3000 (min b.length a.length), ?_, by omega, by omega, by omega⟩
    repeat (split)
    all_goals omega
  rw [hn]
  clear hn
  by_cases hlt : (3000 : Int) < (c.length : Int)
  · go_wp2
    go_ret
    exact ⟨rfl, hb⟩
  · have ea := (hA.below hb).take n h1
    have eb := (hB.below hb).take n h2
    have la : (n : Int) ≤ ca := by have := hA.cap_le; omega
    have lb : (n : Int) ≤ cb := by have := hB.cap_le; omega
    have hA' := Lib.hid hA
    have hB' := Lib.hid hB
    clear hA hB
    have hmk := run_make_row' (P := Tryd.prog) 23 5 (.int .u8 0) 1 Tryd.underlying23 (by kernel_rfl) rfl .i64 .i64 c.length (by omega) (by omega)
    have T1 := Lib.hid (hT.below hb)
    have EA := Lib.hid ea
    have EB := Lib.hid eb
    have HT0 := Lib.hid hT
    clear ea eb hT
    go_wp2
    go_quiet ((first | (go_at_call 12; refine Calls.quiet_of_eq (sum_calls (.slice aa n ca) (a.take n) _ T1.out EA.out)) | (go_at_call 12; refine Calls.quiet_of_eq (sum_calls (.slice ab n cb) (b.take n) _ T1.out EB.out))))
    go_upto_region 8 with (fail)
    have hb2 : Below w.heap.size w ((w1.drewN nq).alloc (.cells (madeCells #[.int .u8 0] c.length) 5)) := Below.alloc (w := w1.drewN nq) ⟨hb.os, hb.tape, hb.output, hb.size, hb.block⟩ hb.size _
    have hz : Bytes ((w1.drewN nq).alloc (.cells (madeCells #[.int .u8 0] c.length) 5)) (.slice (some ⟨w1.heap.size, 0, none⟩) c.length c.length) (List.replicate c.length 0) := zero_bytes (w1.drewN nq) c.length (by omega)
    generalize (w1.drewN nq).alloc (.cells (madeCells #[.int .u8 0] c.length) 5) = W2 at *
    have hc := hC.below hb2
    have ht := HT0.out.below hb2
    have KEY := Lib.hid (zeros_key (next 0 (a.take n)) (next 0 (b.take n)) c (next_bd _ _) (next_bd _ _) hc.1)
    clear hC
    generalize next 0 (a.take n) = x at *
    generalize next 0 (b.take n) = y at *
    have c1 : Hid (Calls Tryd.prog 10 #[.int .u32 x, .slice ac c.length cc] W2 fun e w' => e = .returned (.int .u32 (next x c)) ∧ W2 = w') := next_calls _ _ _ _ ht hc
    have c2 : Hid (Calls Tryd.prog 10 #[.int .u32 y, .slice ac c.length cc] W2 fun e w' => e = .returned (.int .u32 (next y c)) ∧ W2 = w') := next_calls _ _ _ _ ht hc
    have c3 : Hid (Calls Tryd.prog 10 #[.int .u32 x, .slice (some ⟨w1.heap.size, 0, none⟩) c.length c.length] W2 fun e w' => e = .returned (.int .u32 (next x (List.replicate c.length 0))) ∧ W2 = w') := next_calls _ _ _ _ ht hz
    have c4 : Hid (Calls Tryd.prog 10 #[.int .u32 y, .slice (some ⟨w1.heap.size, 0, none⟩) c.length c.length] W2 fun e w' => e = .returned (.int .u32 (next y (List.replicate c.length 0))) ∧ W2 = w') := next_calls _ _ _ _ ht hz
    clear hz hc ht
    generalize next x (List.replicate c.length 0) = xz at *
    generalize next y (List.replicate c.length 0) = yz at *
    generalize next x c = xc at *
    generalize next y c = yc at *
    go_wp2_with fail
    refine c1.out.mono ?_
    rintro e w' ⟨rfl, rfl⟩
    go_wp2_with fail
    refine c2.out.mono ?_
    rintro e w' ⟨rfl, rfl⟩
    go_wp2_with fail
    refine c3.out.mono ?_
    rintro e w' ⟨rfl, rfl⟩
    go_wp2_with fail
    refine c4.out.mono ?_
    rintro e w' ⟨rfl, rfl⟩
    have k1 : (bits .xor .u32 xc yc == bits .xor .u32 xz yz) = true := by rw [KEY.out.1]; simp
    go_wp2_with fail
    refine c1.out.mono ?_
    rintro e w' ⟨rfl, rfl⟩
    go_wp2_with fail
    refine c2.out.mono ?_
    rintro e w' ⟨rfl, rfl⟩
    have k2 := KEY.out.2
    go_wp2
    go_ret
    exact ⟨rfl, hb2⟩
theorem zeros_walk' (va : Value) (a : List Int) {w : World} (hA : Bytes w va a) (vb : Value) (b : List Int) (hB : Bytes w vb b) (vc : Value) (c : List Int) (hC : Bytes w vc c) (hT : Tab w) :
    Calls Tryd.prog 7 #[va, vb, vc] w fun e w' => e = .returned (.bool true) ∧ Below w.heap.size w w' := zeros_walk va vb vc a b c w hT hA hB hC
end Go.Proofs.YtmhopnopdloedaaDoor
