/- CrcByte: THE WALK. -/
import Derived.Test.YtmhopnopdloedaaDoorTells
namespace Go.Proofs.YtmhopnopdloedaaDoor
open Go Go.RowKit

theorem nextB_inj1 (s c d : W32) (h : nextB s [c] = nextB s [d]) : c = d := by
  unfold nextB runB byteB at h
  simp only [List.foldl_cons, List.foldl_nil] at h
  have h1 := xor_null (a := bsteps 8 (4294967295#32 ^^^ s ^^^ c)) (b := bsteps 8 (4294967295#32 ^^^ s ^^^ d)) (by
    have e : bsteps 8 (4294967295#32 ^^^ s ^^^ c) ^^^ bsteps 8 (4294967295#32 ^^^ s ^^^ d) = (4294967295#32 ^^^ bsteps 8 (4294967295#32 ^^^ s ^^^ c)) ^^^ (4294967295#32 ^^^ bsteps 8 (4294967295#32 ^^^ s ^^^ d)) := by
      rw [show (4294967295#32 ^^^ bsteps 8 (4294967295#32 ^^^ s ^^^ c)) ^^^ (4294967295#32 ^^^ bsteps 8 (4294967295#32 ^^^ s ^^^ d)) = (4294967295#32 ^^^ 4294967295#32) ^^^ (bsteps 8 (4294967295#32 ^^^ s ^^^ c) ^^^ bsteps 8 (4294967295#32 ^^^ s ^^^ d)) from by ac_rfl]
      simp
    rw [e, h]; simp)
  have h2 := bsteps_inj 8 h1
  generalize 4294967295#32 ^^^ s = y at h2
  apply xor_null
  have e : c ^^^ d = (y ^^^ c) ^^^ (y ^^^ d) := by
    rw [show (y ^^^ c) ^^^ (y ^^^ d) = (y ^^^ y) ^^^ (c ^^^ d) from by ac_rfl]; simp
  rw [e, h2]; simp
theorem next_asW (s : Int) (l : List Int) (h0 : 0 ≤ s) (h1 : s ≤ 4294967295) (h : ∀ c ∈ l, 0 ≤ c ∧ c ≤ 255) : next s l = toI (nextB (BitVec.ofInt 32 s) (asW l)) := by
  have e := next_toI (BitVec.ofInt 32 s) (asW l)
  unfold asW at e
  rw [toI_of s h0 h1, map_toI l h] at e
  exact e
theorem next_inj1 (s c d : Int) (h0 : 0 ≤ s) (h1 : s ≤ 4294967295) (hc : 0 ≤ c ∧ c ≤ 255) (hd : 0 ≤ d ∧ d ≤ 255) (h : next s [c] = next s [d]) : c = d := by
  rw [next_asW s [c] h0 h1 (by simpa using hc), next_asW s [d] h0 h1 (by simpa using hd)] at h
  have := nextB_inj1 _ _ _ (toI_inj h)
  have e := congrArg toI this
  rwa [toI_of c hc.1 (by omega), toI_of d hd.1 (by omega)] at e
theorem bd_u8 {n : Int} (h : (Lit.int .u8 n).wf = true) : 0 ≤ n ∧ n ≤ 255 := by
  simp [Lit.wf, IntKind.min, IntKind.max, IntKind.signed, IntKind.bits] at h
  omega
theorem bd_u16 {n : Int} (h : (Lit.int .u16 n).wf = true) : 0 ≤ n ∧ n ≤ 65535 := by
  simp [Lit.wf, IntKind.min, IntKind.max, IntKind.signed, IntKind.bits] at h
  omega
theorem bd_u32 {n : Int} (h : (Lit.int .u32 n).wf = true) : 0 ≤ n ∧ n ≤ 4294967295 := by
  simp [Lit.wf, IntKind.min, IntKind.max, IntKind.signed, IntKind.bits] at h
  omega
theorem one_byte (w : World) (c : Int) (hc : 0 ≤ c ∧ c ≤ 255) : Bytes (w.alloc (.cells #[.int .u8 c] 5)) (.slice (some ⟨w.heap.size, 0, none⟩) 1 1) [c] :=
  Bytes.ofRow (l := [c]) (cap := 1) (heap_alloc_new w _) (by simpa using hc) (by simp) (by simp) (by intro j hj; simp at hj; subst hj; rfl)

set_option maxHeartbeats 400000 in
theorem byte_walk (s c d : Int) (w : World) (h0 : 0 ≤ s) (h1 : s ≤ 4294967295) (hc : 0 ≤ c ∧ c ≤ 255) (hd : 0 ≤ d ∧ d ≤ 255) (hT : Tab w) :
    Calls Tryd.prog 8 #[.int .u32 s, .int .u8 c, .int .u8 d] w fun e w' => e = .returned (.bool true) ∧ Below w.heap.size w w' := by
  have hn : ∀ W, Tab W → Calls Tryd.prog 10 #[.int .u32 s, .slice none 0 0] W fun e w' => e = .returned (.int .u32 s) ∧ W = w' := fun W h => by
    have := next_calls s (.slice none 0 0) [] W h ⟨by simp, by simp, .inl ⟨rfl, none, 0, rfl⟩⟩
    rw [next_nil s h0 h1] at this; exact this
  have HN := Lib.hid hn
  clear hn
  have ha : ∀ (W : World) n, Tab W → n = W.heap.size → Calls Tryd.prog 10 #[.int .u32 s, .slice (some ⟨n, 0, none⟩) 1 1] (W.alloc (.cells #[.int .u8 c] 5)) fun e w' => e = .returned (.int .u32 (next s [c])) ∧ W.alloc (.cells #[.int .u8 c] 5) = w' := fun W n h e => by
    subst e
    exact next_calls s _ [c] _ (h.below ((Below.refl _ _).alloc (Nat.le_refl _) _)) (one_byte W c hc)
  have hb : ∀ (W : World) n, Tab W → n = W.heap.size → Calls Tryd.prog 10 #[.int .u32 s, .slice (some ⟨n, 0, none⟩) 1 1] (W.alloc (.cells #[.int .u8 d] 5)) fun e w' => e = .returned (.int .u32 (next s [d])) ∧ W.alloc (.cells #[.int .u8 d] 5) = w' := fun W n h e => by
    subst e
    exact next_calls s _ [d] _ (h.below ((Below.refl _ _).alloc (Nat.le_refl _) _)) (one_byte W d hd)
  have HA := Lib.hid ha
  have HB := Lib.hid hb
  clear ha hb
  have key : ((next s [c] == next s [d]) == (c == d)) = true := by
    by_cases e : c = d
    · subst e; simp
    · have : ¬ next s [c] = next s [d] := fun h => e (next_inj1 s c d h0 h1 hc hd h)
      rw [beq_eq_false_iff_ne.2 e, beq_eq_false_iff_ne.2 this]; rfl
  have KEY := Lib.hid key
  clear key
  generalize next s [c] = x at *
  generalize next s [d] = y at *
  go_enter Tryd.func8, Tryd.ntmps8
  go_wp2_with (first | (go_at_call 9; refine (alive_at hT).mono ?_; rintro e w1 ⟨rfl, hb⟩))
  refine (HA.out _ _ (hT.below hb) rfl).mono ?_
  rintro e w' ⟨rfl, rfl⟩
  go_wp2_with fail
  have hb1 : Below w.heap.size w (w1.alloc (.cells #[.int .u8 c] 5)) := hb.alloc hb.size _
  refine (HB.out (w1.alloc (.cells #[.int .u8 c] 5)) _ (hT.below hb1) (by simp)).mono ?_
  rintro e w' ⟨rfl, rfl⟩
  have hb2 : Below w.heap.size w ((w1.alloc (.cells #[.int .u8 c] 5)).alloc (.cells #[.int .u8 d] 5)) := hb1.alloc hb1.size _
  have key := KEY.out
  go_wp2_with (go_at_call 10; refine (HN.out _ (hT.below hb2)).mono ?_; rintro e w' ⟨rfl, rfl⟩)
  go_ret
  exact ⟨rfl, hb2⟩
theorem byte_walk' (s : Int) (hs : (Lit.int .u32 s).wf = true) (c : Int) (hc : (Lit.int .u8 c).wf = true) (d : Int) (hd : (Lit.int .u8 d).wf = true) {w : World} (hT : Tab w) :
    Calls Tryd.prog 8 #[.int .u32 s, .int .u8 c, .int .u8 d] w fun e w' => e = .returned (.bool true) ∧ Below w.heap.size w w' :=
  byte_walk s c d w (bd_u32 hs).1 (bd_u32 hs).2 (bd_u8 hc) (bd_u8 hd) hT
end Go.Proofs.YtmhopnopdloedaaDoor
