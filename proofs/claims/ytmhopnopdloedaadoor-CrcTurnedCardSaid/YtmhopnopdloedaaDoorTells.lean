/- CrcTells: THE WALK. -/
import Derived.Test.YtmhopnopdloedaaDoorWalk2
namespace Go.Proofs.YtmhopnopdloedaaDoor
open Go Go.RowKit

theorem Bytes.slice {w : World} {v : Value} {l : List Int} (h : Bytes w v l) : ∃ a cap, v = .slice a l.length cap := by
  obtain ⟨_, _, ⟨rfl, a, cap, rfl⟩ | ⟨b, off, cap, rfl, _, _⟩⟩ := h
  · exact ⟨a, cap, rfl⟩
  · exact ⟨_, cap, rfl⟩
theorem alive_at {w : World} (hT : Tab w) : Calls Tryd.prog 9 #[] w fun e w' => e = .returned (.bool true) ∧ Below w.heap.size w w' := alive_calls w hT

set_option maxHeartbeats 400000 in
theorem tells_walk (s : Int) (v : Value) (l : List Int) (w : World) (hT : Tab w) (hB : Bytes w v l) :
    Calls Tryd.prog 3 #[.int .u32 s, v] w fun e w' => e = .returned (.bool true) ∧ Below w.heap.size w w' := by
  obtain ⟨a, cap, rfl⟩ := hB.slice
  have hm := hB.2.1
  by_cases hlt : (3000 : Int) < (l.length : Int)
  · go_enter Tryd.func3, Tryd.ntmps3
    go_wp2_with (go_at_call 9; refine (alive_at hT).mono ?_; rintro e w1 ⟨rfl, hb⟩)
    go_ret
    exact ⟨rfl, hb⟩
  · go_enter Tryd.func3, Tryd.ntmps3
    go_wp2_with (first | (go_at_call 9; refine (alive_at hT).mono ?_; rintro e w1 ⟨rfl, hb⟩) | (go_at_call 10; refine (next_calls _ _ l _ (hT.below hb) (hB.below hb)).mono ?_; rintro e w' ⟨rfl, rfl⟩) | (go_at_call 11; refine (rnext_calls _ _ l _ (hB.below hb)).mono ?_; rintro e w' ⟨rfl, rfl⟩) | (go_at_call 12; refine (sum_calls _ l _ (hT.below hb) (hB.below hb)).mono ?_; rintro e w' ⟨rfl, rfl⟩) | (go_at_call 13; refine (rsum_calls _ l _ (hB.below hb)).mono ?_; rintro e w' ⟨rfl, rfl⟩))
    go_ret
    exact ⟨rfl, hb⟩

theorem tells_walk' (s : Int) (_ : (Lit.int .u32 s).wf = true) (v : Value) (l : List Int) {w : World} (hB : Bytes w v l) (hT : Tab w) :
    Calls Tryd.prog 3 #[.int .u32 s, v] w fun e w' => e = .returned (.bool true) ∧ Below w.heap.size w w' := tells_walk s v l w hT hB
end Go.Proofs.YtmhopnopdloedaaDoor
