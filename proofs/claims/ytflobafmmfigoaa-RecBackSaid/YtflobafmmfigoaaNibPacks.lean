/- NibPacks: THE WALK. -/
import Derived.Test.YtflobafmmfigoaaNibAlive
namespace Go.Proofs.Ytflobafmmfigoaa
open Go Go.RowKit

theorem Ints.conv' {w : World} {v : Value} {l : List Int} (h : Ints .u8 w v l) : (convert 43 9 v).run Try.prog w = .ok (.string (strOfNums l)) w :=
  h.string Try.underlying43 Try.underlying5 Try.underlying9
theorem packV_form (l : List Int) : ∃ x b, packV l = .tuple #[.int .u64 x, .bool b] := by
  unfold packV; split
  · exact ⟨_, _, rfl⟩
  · exact ⟨_, _, rfl⟩

set_option maxHeartbeats 800000 in
theorem nibPacks_walk (va : Value) (a : List Int) {w : World} (hA : Ints .u8 w va a) (x : Int) (hx : (Lit.int .u64 x).wf = true) :
    Calls Try.prog 9 #[va, .int .u64 x] w fun e w' => e = .returned (.bool true) ∧ Below w.heap.size w w' := by
  obtain ⟨aa, ca, rfl⟩ := hA.slice
  by_cases h1 : 500 < a.length
  · have t1 : decide ((500 : Int) < (a.length : Int)) = true := by simp; omega
    clear hA
    go_enter Try.func9, Try.ntmps9
    go_wp2_with (go_at_call 22; refine (alive_calls _).mono ?_; rintro e w1 ⟨rfl, hb1⟩)
    go_ret
    exact ⟨rfl, hb1⟩
  · have t1 : decide ((500 : Int) < (a.length : Int)) = false := by simp; omega
    obtain ⟨p, pb, hp⟩ := packV_form a
    have HP := Lib.hid hp
    have HX := Lib.hid (bd_u64 hx)
    have HA := Lib.hid hA
    clear hp hA hx
    go_enter Try.func9, Try.ntmps9
    go_wp2_with (go_at_call 22; refine (alive_calls _).mono ?_; rintro e w1 ⟨rfl, hb1⟩)
    refine (pack_calls _ _ _ (HA.out.below hb1)).mono ?_
    rintro e w' ⟨rfl, rfl⟩
    rw [HP.out]
    go_wp2_with fail
    refine (rpack_calls _ _ _ (HA.out.below hb1)).mono ?_
    rintro e w' ⟨rfl, rfl⟩
    rw [HP.out]
    go_wp2_with fail
    refine (unpack_calls x _ HX.out).mono ?_
    rintro e w2 ⟨hb2, hr⟩
    have hb02 := below_next hb1 hb2
    have hpb : (pb == pb) = true := by simp
    have hpp : (p == p) = true := by simp
    rcases hr with ⟨hn, rfl⟩ | ⟨v, hs, rfl, ho⟩
    · have HN := Lib.hid hn
      clear hn
      go_wp2_with fail
      refine (runpack_calls x _ HX.out).mono ?_
      rintro e w3 ⟨hb3, hr⟩
      rcases hr with ⟨_, rfl⟩ | ⟨v', hs', _⟩
      · have hb03 := below_next hb02 hb3
        have hc := fun W : World => run_convert_bytes_nil W 43 5 Try.underlying43 Try.underlying5 0 0 9 Try.underlying9
        go_wp2
        go_ret
        exact ⟨rfl, hb03⟩
      · rw [HN.out] at hs'; cases hs'
    · have HS := Lib.hid hs
      have hlen := digL_length (x % 16).toNat (x / 16)
      have hl16 : (x % 16).toNat ≤ 16 := by omega
      have HO := Lib.hid ho
      obtain ⟨A, c, rfl⟩ := ho.slice
      clear hs ho
      go_wp2_with fail
      refine (runpack_calls x _ HX.out).mono ?_
      rintro e w3 ⟨hb3, hr⟩
      rcases hr with ⟨hn, _⟩ | ⟨v', hs', rfl, ho'⟩
      · rw [HS.out] at hn; cases hn
      · have hb03 := below_next hb02 hb3
        have hc1 := ((HO.out.ints (by omega)).below hb3).conv'
        have hc2 := (ho'.ints (by omega)).conv'
        obtain ⟨A', c', rfl⟩ := ho'.slice
        rw [hlen] at hc1 hc2
        rw [hlen]
        clear ho' hs' hb1 hb2 hb3 hb02
        go_wp2
        go_ret
        exact ⟨rfl, hb03⟩
end Go.Proofs.Ytflobafmmfigoaa
