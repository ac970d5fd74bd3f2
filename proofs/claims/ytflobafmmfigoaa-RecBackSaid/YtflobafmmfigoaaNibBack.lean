/- NibBack: THE WALK. -/
import Derived.Test.YtflobafmmfigoaaNibPacks
namespace Go.Proofs.Ytflobafmmfigoaa
open Go Go.RowKit

set_option maxHeartbeats 1600000 in
theorem nibBack_main (key : ByteArray) (va : Value) (l : List Int) (w : World) (hA : Ints .u8 w va l) (x : Int) (hx : W64 x) (h1 : key.size ≤ 500) (h2 : l.length ≤ 500) :
    Calls Try.prog 10 #[.string key, va, .int .u64 x] w fun e w' => e = .returned (.bool true) ∧ Below w.heap.size w w' := by
  obtain ⟨aa, ca, rfl⟩ := hA.slice
  have t1 : decide ((500 : Int) < (key.size : Int)) = false := by simp; omega
  have t2 : decide ((500 : Int) < (l.length : Int)) = false := by simp; omega
  have hks : key.size ≤ 100000 := by omega
  have hln : (ofL (bytesOf key)).length = 2 * key.size := by rw [ofL_length, bytesOf_length]
  have hkv : keyV (ofL (bytesOf key)) = .tuple #[.string key, .bool true] := by
    unfold keyV; rw [keyL_of _ (bytesOf_bd key)]; simp only; rw [strOf_bytes]
  have HKV := Lib.hid hkv
  have HLN := Lib.hid hln
  have HX := Lib.hid hx
  have HA := Lib.hid hA
  clear hkv hln hx hA
  go_enter Try.func10, Try.ntmps10
  go_wp2_with (go_at_call 22; refine (alive_calls _).mono ?_; rintro e w1 ⟨rfl, hb1⟩)
  refine (of_calls _ _ hks).mono ?_
  rintro e w2 ⟨v2, rfl, ho2, hb2⟩
  have hb02 := below_next hb1 hb2
  have hi2 := ho2.ints (by rw [HLN.out]; omega)
  have HI2 := Lib.hid hi2
  obtain ⟨a2, c2, rfl⟩ := ho2.slice
  clear ho2 hi2
  go_wp2_with fail
  refine (key_calls _ _ _ HI2.out (by rw [HLN.out]; omega)).mono ?_
  rintro e w3 ⟨rfl, hb3⟩
  have hb03 := below_next hb02 hb3
  rw [HKV.out]
  have hkk : (key.toList == key.toList) = true := by simp
  go_wp2_with fail
  refine (of_calls _ _ hks).mono ?_
  rintro e w4 ⟨v4, rfl, ho4, hb4⟩
  have hb04 := below_next hb03 hb4
  obtain ⟨a4, c4, rfl⟩ := ho4.slice
  rw [HLN.out]
  clear ho4 hb1 hb2 hb3 hb4 hb02 hb03
  have hnn : (2 * (key.size : Int) != 2 * (key.size : Int)) = false := by simp
  go_wp2_with fail
  have HA4 := Lib.hid (HA.out.below hb04)
  refine (pack_calls _ _ _ HA4.out).mono ?_
  rintro e w' ⟨rfl, rfl⟩
  cases hp : packL l with
  | none =>
    have hpv : packV l = .tuple #[.int .u64 0, .bool false] := by unfold packV; rw [hp]
    rw [hpv]
    clear hp hpv
    go_wp2_with fail
    have hxw := HX.out
    refine (unpack_calls x _ HX.out).mono ?_
    rintro e wz ⟨hbz, hr⟩
    have hbz0 := below_next hb04 hbz
    rcases hr with ⟨hn, rfl⟩ | ⟨vz, hs, rfl, ho⟩
    · go_wp2
      go_ret
      exact ⟨rfl, hbz0⟩
    · have hpk := pack_unpack x _ HX.out.1 hs
      have hpv : packV (digL (x / 16) (x % 16).toNat) = .tuple #[.int .u64 x, .bool true] := by unfold packV; rw [hpk]
      have hlen := digL_length (x % 16).toNat (x / 16)
      have hl16 : (x % 16).toNat ≤ 16 := by omega
      have hi := ho.ints (by omega)
      obtain ⟨A, c, rfl⟩ := ho.slice
      have HI := Lib.hid hi
      have HPV := Lib.hid hpv
      clear hs ho hi hpk hpv hlen hxw
      go_wp2_with fail
      refine (pack_calls _ _ _ HI.out).mono ?_
      rintro e w' ⟨rfl, rfl⟩
      rw [HPV.out]
      have hxx : (x != x) = false := by simp
      go_wp2
      go_ret
      exact ⟨rfl, hbz0⟩
  | some y =>
    have hpv : packV l = .tuple #[.int .u64 y, .bool true] := by unfold packV; rw [hp]
    rw [hpv]
    have hup := unpack_pack l y (fun c hc => (HA4.out.bd c hc).1) hp
    have hw64 : W64 y := by
      unfold packL at hp
      by_cases hc : l.length ≤ 15 ∧ ∀ c ∈ l, c < 16
      · rw [if_pos hc] at hp
        simp only [Option.some.injEq] at hp
        have hb := valL_bd l (fun c hx => ⟨(HA4.out.bd c hx).1, hc.2 c hx⟩)
        have hpw : (16 : Int) ^ l.length ≤ 16 ^ 15 := by
          have : (16 : Nat) ^ l.length ≤ 16 ^ 15 := Nat.pow_le_pow_right (by omega) hc.1
          have e : ((16 : Int) ^ l.length) = ((16 ^ l.length : Nat) : Int) := by simp
          rw [e]; omega
        unfold W64
        omega
      · rw [if_neg hc] at hp; cases hp
    have HUP := Lib.hid hup
    have HW := Lib.hid hw64
    clear hp hpv hup hw64
    go_wp2_with fail
    refine (unpack_calls y _ HW.out).mono ?_
    rintro e w5 ⟨hb5, hr⟩
    rcases hr with ⟨hn, _⟩ | ⟨v5, hs, rfl, ho⟩
    · rw [HUP.out] at hn; cases hn
    · have hb05 := below_next hb04 hb5
      have hdl : digL (y / 16) (y % 16).toNat = l := by have := HUP.out; rw [hs] at this; exact Option.some.inj this
      rw [hdl] at ho
      have hc1 := (ho.ints (by omega)).conv'
      have hc2 := (HA4.out.below hb5).conv'
      obtain ⟨a5, c5, rfl⟩ := ho.slice
      have hll : ((strOfNums l).toList == (strOfNums l).toList) = true := by simp
      clear hdl hs ho hb5
      go_wp2_with fail
      have hxw := HX.out
      refine (unpack_calls x _ HX.out).mono ?_
      rintro e wz ⟨hbz, hr⟩
      have hbz0 := below_next hb05 hbz
      rcases hr with ⟨hn, rfl⟩ | ⟨vz, hs, rfl, ho⟩
      · go_wp2
        go_ret
        exact ⟨rfl, hbz0⟩
      · have hpk := pack_unpack x _ HX.out.1 hs
        have hpv : packV (digL (x / 16) (x % 16).toNat) = .tuple #[.int .u64 x, .bool true] := by unfold packV; rw [hpk]
        have hlen := digL_length (x % 16).toNat (x / 16)
        have hl16 : (x % 16).toNat ≤ 16 := by omega
        have hi := ho.ints (by omega)
        obtain ⟨A, c, rfl⟩ := ho.slice
        have HI := Lib.hid hi
        have HPV := Lib.hid hpv
        clear hs ho hi hpk hpv hlen hxw
        go_wp2_with fail
        refine (pack_calls _ _ _ HI.out).mono ?_
        rintro e w' ⟨rfl, rfl⟩
        rw [HPV.out]
        have hxx : (x != x) = false := by simp
        go_wp2
        go_ret
        exact ⟨rfl, hbz0⟩
set_option maxHeartbeats 400000 in
theorem nibBack_out (key : ByteArray) (va : Value) (l : List Int) (w : World) (hA : Ints .u8 w va l) (x : Int)
    (h : 500 < key.size ∨ (key.size ≤ 500 ∧ 500 < l.length)) :
    Calls Try.prog 10 #[.string key, va, .int .u64 x] w fun e w' => e = .returned (.bool true) ∧ Below w.heap.size w w' := by
  obtain ⟨aa, ca, rfl⟩ := hA.slice
  clear hA
  rcases h with h | ⟨h1, h2⟩
  · have t1 : decide ((500 : Int) < (key.size : Int)) = true := by simp; omega
    go_enter Try.func10, Try.ntmps10
    go_wp2_with (go_at_call 22; refine (alive_calls _).mono ?_; rintro e w1 ⟨rfl, hb1⟩)
    go_ret
    exact ⟨rfl, hb1⟩
  · have t1 : decide ((500 : Int) < (key.size : Int)) = false := by simp; omega
    have t2 : decide ((500 : Int) < (l.length : Int)) = true := by simp; omega
    go_enter Try.func10, Try.ntmps10
    go_wp2_with (go_at_call 22; refine (alive_calls _).mono ?_; rintro e w1 ⟨rfl, hb1⟩)
    go_ret
    exact ⟨rfl, hb1⟩
theorem nibBack_walk (key : ByteArray) (_ : key.size ≤ maxLen) (va : Value) (l : List Int) {w : World} (hA : Ints .u8 w va l) (x : Int) (hx : (Lit.int .u64 x).wf = true) :
    Calls Try.prog 10 #[.string key, va, .int .u64 x] w fun e w' => e = .returned (.bool true) ∧ Below w.heap.size w w' := by
  by_cases h : key.size ≤ 500 ∧ l.length ≤ 500
  · exact nibBack_main key va l w hA x (bd_u64 hx) h.1 h.2
  · exact nibBack_out key va l w hA x (by omega)
end Go.Proofs.Ytflobafmmfigoaa
