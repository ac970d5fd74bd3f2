/- SlabTakes: THE WALK. -/
import Derived.Test.YtkmkficnkiaajaaDoorSlabRef3
import Derived.Test.YtkmkficnkiaajaaDoorSlabOrder
namespace Go.Proofs.YtkmkficnkiaajaaDoor
open Go Go.RowKit

theorem rtake_calls (n : Nat) (c at' : Int) (w : World) (hn : n < 18446744073709551616) :
    Calls Tryd.prog 24 #[.int .u64 n, .int .i64 c, .int .i64 at'] w fun e w' => e = .returned (.tuple #[.int .u64 ((takeN n c at' : Nat) : Int), .bool (decide (takeP n c at'))]) ∧ Below w.heap.size w w' := by
  by_cases h : takeP n c at'
  · rw [decide_eq_true h]; exact rtake_yes n c at' w hn h
  · have e : takeN n c at' = n := by unfold takeN; rw [if_neg h]
    rw [decide_eq_false h, e]; exact rtake_no n c at' w hn h
theorem rdrop_calls (n : Nat) (at' : Int) (w : World) (hn : n < 18446744073709551616) :
    Calls Tryd.prog 26 #[.int .u64 n, .int .i64 at'] w fun e w' => e = .returned (.tuple #[.int .u64 ((dropN n at' : Nat) : Int), .bool (hasB n at')]) ∧ Below w.heap.size w w' := by
  cases h : hasB n at'
  · have e : dropN n at' = n := by unfold dropN; rw [h]; rfl
    rw [e]; exact rdrop_no n at' w hn h
  · exact rdrop_yes n at' w hn h
set_option maxHeartbeats 800000 in
theorem slabTakes_walk (n : Int) (hn : (Lit.int .u64 n).wf = true) (c : Int) (_ : (Lit.int .i64 c).wf = true) (a : Int) (_ : (Lit.int .i64 a).wf = true) {w : World} (hZ : TabZ w) (hB : TabB w) :
    Calls Tryd.prog 8 #[.int .u64 n, .int .i64 c, .int .i64 a] w fun e w' => e = .returned (.bool true) ∧ Below w.heap.size w w' := by
  obtain ⟨n, rfl, hn'⟩ := nat_u64 (bd_u64 hn)
  have HN := Lib.hid hn'
  have HTB := Lib.hid hB
  have HTZ := Lib.hid hZ
  obtain ⟨x, hx⟩ : ∃ x, takeN n c a = x := ⟨_, rfl⟩
  obtain ⟨p, hp⟩ : ∃ p, decide (takeP n c a) = p := ⟨_, rfl⟩
  obtain ⟨y, hy⟩ : ∃ y, dropN n a = y := ⟨_, rfl⟩
  obtain ⟨q, hq⟩ : ∃ q, hasB n a = q := ⟨_, rfl⟩
  have HX := Lib.hid hx
  have HP := Lib.hid hp
  have HY := Lib.hid hy
  have HQ := Lib.hid hq
  have hrt : ∀ W, Calls Tryd.prog 24 #[.int .u64 n, .int .i64 c, .int .i64 a] W fun e w' => e = .returned (.tuple #[.int .u64 (x : Int), .bool p]) ∧ Below W.heap.size W w' := fun W => by
    rw [← hx, ← hp]; exact rtake_calls n c a W hn'
  have hrd : ∀ W, Calls Tryd.prog 26 #[.int .u64 n, .int .i64 a] W fun e w' => e = .returned (.tuple #[.int .u64 (y : Int), .bool q]) ∧ Below W.heap.size W w' := fun W => by
    rw [← hy, ← hq]; exact rdrop_calls n a W hn'
  have HRT := Lib.hid hrt
  have HRD := Lib.hid hrd
  clear hn hn' hB hZ hx hp hy hq hrt hrd
  go_enter Tryd.func8, Tryd.ntmps8
  go_wp2_with fail
  refine (salive_calls _ HTB.out HTZ.out).mono ?_
  rintro e w' ⟨rfl, m0, rfl⟩
  go_wp2_with fail
  refine (take_at _ _ _ n x p _ rfl HN.out (HTB.out.drewN _) HX.out HP.out).mono ?_
  rintro e w' ⟨rfl, m1, rfl⟩
  go_wp2_with fail
  refine (HRT.out _).mono ?_
  rintro e w2 ⟨rfl, hb2⟩
  have HB2 := Lib.hid ((below_drewN (Below.refl w.heap.size w) _).trans hb2)
  have HTB2 := Lib.hid ((HTB.out.drewN _).below hb2)
  clear hb2
  go_wp2_with fail
  refine (drop_at _ _ n y q _ rfl HN.out HTB2.out HY.out HQ.out).mono ?_
  rintro e w' ⟨rfl, m3, rfl⟩
  go_wp2_with fail
  refine (HRD.out _).mono ?_
  rintro e w4 ⟨rfl, hb4⟩
  have HB4 := Lib.hid ((below_drewN HB2.out m3).trans (hb4.mono HB2.out.size))
  clear hb4
  go_wp2
  go_ret
  exact ⟨rfl, HB4.out⟩
end Go.Proofs.YtkmkficnkiaajaaDoor
