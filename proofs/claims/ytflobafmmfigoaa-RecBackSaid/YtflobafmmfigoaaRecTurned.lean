/- RecTurned: THE WALK. -/
import Derived.Test.YtflobafmmfigoaaRecTells
namespace Go.Proofs.Ytflobafmmfigoaa
open Go Go.RowKit

theorem toList_inj {a b : ByteArray} (h : a.toList = b.toList) : a = b := by
  have h2 := str_beq (bytesOf a) (bytesOf b) (bytesOf_bd a) (bytesOf_bd b)
  rw [strOf_bytes, strOf_bytes, h] at h2
  simp at h2
  exact bytesOf_inj h2
theorem xor_turned (x : Int) (k : Nat) (hx : W64 x) (hk : k < 64) : bits .xor .u64 x (IntKind.u64.wrap (2 ^ k)) ≠ x ∧ W64 (bits .xor .u64 x (IntKind.u64.wrap (2 ^ k))) := by
  have hp : (2 : Nat) ^ k ≤ 2 ^ 63 := Nat.pow_le_pow_right (by omega) (by omega)
  have hp0 : 0 < (2 : Nat) ^ k := Nat.pow_pos (by omega)
  have e : IntKind.u64.wrap (2 ^ k) = ((2 ^ k : Nat) : Int) := by
    have e2 : (2 : Int) ^ k = ((2 ^ k : Nat) : Int) := by rw [Int.natCast_pow]; rfl
    rw [e2, IntKind.wrap_u64]
    generalize (2 : Nat) ^ k = p at *
    omega
  unfold W64 at *
  obtain ⟨X, rfl⟩ := Int.eq_ofNat_of_zero_le hx.1
  rw [e]
  generalize (2 : Nat) ^ k = p at *
  rw [u64_xor_nat X p (by omega) (by omega)]
  have hb : X ^^^ p < 2 ^ 64 := Nat.xor_lt_two_pow (by omega) (by omega)
  refine ⟨fun h => ?_, by omega⟩
  have h' : X ^^^ p = X := by omega
  have h2 : X ^^^ (X ^^^ p) = 0 := by rw [h', Nat.xor_self]
  rw [← Nat.xor_assoc, Nat.xor_self, Nat.zero_xor] at h2
  omega
set_option maxHeartbeats 1600000 in
theorem recTurned_main (s n : Int) (g : Bool) (t : ByteArray) (a b : Int) (w : World) (hs : W64 s) (hn : W64 n) (h1 : t.size ≤ 200) (ha : 0 ≤ a ∧ a ≤ 255) (hb : 0 ≤ b ∧ b ≤ 255) :
    Calls Try.prog 7 #[.agg #[.int .u64 s, .int .u64 n, .bool g, .string t], .int .u8 a, .int .u8 b] w fun e w' => e = .returned (.bool true) ∧ Below w.heap.size w w' := by
  have t1 : decide ((200 : Int) < (t.size : Int)) = false := by simp; omega
  have HS := Lib.hid hs
  have HN := Lib.hid hn
  have HLT : Hid (w.heap.size < (w.alloc (.cells #[.int .u64 s, .int .u64 n, .bool g, .string t] 24)).heap.size) := Lib.hid (by simp)
  have HB0 := Lib.hid ((Below.refl w.heap.size w).alloc (Nat.le_refl _) (.cells #[.int .u64 s, .int .u64 n, .bool g, .string t] 24))
  have HR0 : Hid ((w.alloc (.cells #[.int .u64 s, .int .u64 n, .bool g, .string t] 24)).heap[w.heap.size]? = some (.cells #[.int .u64 s, .int .u64 n, .bool g, .string t] 24 (0, 0))) := Lib.hid (heap_alloc_new w _)
  clear hs hn
  go_enter Try.func7, Try.ntmps7
  go_wp2_with fail
  refine (ralive_calls _).mono ?_
  rintro e w1 ⟨rfl, hb1⟩
  have HR1 := Lib.hid (blk_later HR0.out hb1)
  have HB1 := Lib.hid (HB0.out.trans (hb1.mono (Nat.le_of_lt HLT.out)))
  have HLT1 : Hid (w.heap.size < w1.heap.size) := Lib.hid (Nat.lt_of_lt_of_le HLT.out hb1.size)
  have ⟨c0, c1, c2, c3⟩ := rec_cells HR1.out
  clear hb1
  go_wp2_with fail
  refine (enc_calls s n g t _ HS.out HN.out).mono ?_
  rintro e w2 ⟨v2, rfl, ho2, hb2⟩
  have hi2 := ho2.ints (Nat.le_trans (encL_len s n g t) (by omega))
  have HO2 := Lib.hid hi2
  have HR2 := Lib.hid (blk_later HR1.out hb2)
  have HB2 := Lib.hid (HB1.out.trans (hb2.mono (Nat.le_of_lt HLT1.out)))
  have HLT2 : Hid (w.heap.size < w2.heap.size) := Lib.hid (Nat.lt_of_lt_of_le HLT1.out hb2.size)
  clear c0 c1 c2 c3 ho2 hi2 hb2
  by_cases hok : recOk s g t
  · rw [decide_eq_true hok]
    have h8 : (encL s n g t).length = 8 := by unfold encL; rw [if_pos hok]; rfl
    have H8 := Lib.hid h8
    clear hok h8
    have k0 : 0 ≤ a % 8 := by omega
    have k1 : a % 8 < 8 := by omega
    have HJ : Hid ((a % 8).toNat < 8) := Lib.hid (by omega)
    go_wp2_with (at_builtin; refine wpList_grow rfl (.const (.slice none 0 0)) (.tmp 25) 25 rfl rowOf25 w2.heap.size _ [] rfl (Own.nil_ _ _ _ _) _ (encL s n g t) rfl HO2.out 8 ?c2 ⟨by simp [maxLen], by omega⟩ ?c1 ?_; (case c1 => exact Nat.le_refl _); (case c2 => (rw [H8.out]; simp)); intro A3 c3 w3 hown3 hb3; rw [List.nil_append, List.length_nil, Nat.zero_add, H8.out] at hown3; obtain ⟨G, rfl⟩ : ∃ G, A3 = some ⟨G, 0, none⟩ := (by (obtain ⟨G, m, f, he, _⟩ := row_of_own hown3.1 (by rw [H8.out]; omega)); (simp only [Value.slice.injEq] at he); exact ⟨G, he.1⟩); have rc : w3.cell? ⟨G, (a % 8).toNat, none⟩ = some (.int .u64 ((encL s n g t).getD (a % 8).toNat 0)) := (by (obtain ⟨_, _, hb', _, hcs⟩ := (hown3.ints (by rw [H8.out]; omega)).row (a % 8).toNat (by rw [H8.out]; omega)); (simp only [Option.some.injEq, Addr.mk.injEq, and_true] at hb'); (obtain ⟨rfl, rfl⟩ := hb'); (rwa [Nat.zero_add] at hcs)); have rz : w3.frozen? ⟨G, (a % 8).toNat, none⟩ = false := (by have h := hown3.1; rw [H8.out] at h; exact h.frozenAt _); have HOWN3 := Lib.hid hown3; have HB3 := Lib.hid hb3; clear hown3 hb3; rw [List.length_nil, Nat.zero_add, H8.out])
    have hxx : (encL s n g t).getD (a % 8).toNat 0 = (encL s n g t)[(a % 8).toNat]?.getD 0 := by simp
    have hxw : W64 ((encL s n g t)[(a % 8).toNat]?.getD 0) := by
      have hl := HJ.out
      rw [← H8.out] at hl
      have : (encL s n g t)[(a % 8).toNat]?.getD 0 = (encL s n g t)[(a % 8).toNat]'hl := by simp [hl]
      rw [this]
      exact bd_u64 (HO2.out.1 _ (List.getElem_mem _))
    have ⟨hne, hyw⟩ := xor_turned _ (b % 64).toNat hxw (by omega)
    have HOW4 := HOWN3.out.stored H8.out.symm (a % 8).toNat _ (wf_u64 hyw)
    have hset : (encL s n g t).set (a % 8).toNat (bits BinOp.xor IntKind.u64 ((encL s n g t)[(a % 8).toNat]?.getD 0) (IntKind.u64.wrap (2 ^ (b % 64).toNat))) ≠ encL s n g t := fun h => by
      have h2 := congrArg (fun L => L[(a % 8).toNat]?.getD 0) h
      have hl := HJ.out
      rw [← H8.out] at hl
      simp [hl] at h2
      exact hne (by simpa [hl] using h2)
    generalize hE2 : (encL s n g t).set (a % 8).toNat (bits BinOp.xor IntKind.u64 ((encL s n g t)[(a % 8).toNat]?.getD 0) (IntKind.u64.wrap (2 ^ (b % 64).toNat))) = E2 at hset HOW4
    have hl2 : E2.length = 8 := by rw [← hE2, List.length_set]; exact H8.out
    have hb4 : Below w2.heap.size w2 (w3.setCell ⟨G, (a % 8).toNat, none⟩ (.int .u64 (bits BinOp.xor IntKind.u64 ((encL s n g t)[(a % 8).toNat]?.getD 0) (IntKind.u64.wrap (2 ^ (b % 64).toNat))))) := Own.stored_below HB3.out HOWN3.out H8.out.symm (by omega) _ _
    have hi4 := HOW4.ints (by omega)
    rw [hxx] at *
    clear hE2 hxx hne hyw hxw rc rz HOW4
    generalize w3.setCell ⟨G, (a % 8).toNat, none⟩ (.int .u64 (bits BinOp.xor IntKind.u64 ((encL s n g t)[(a % 8).toNat]?.getD 0) (IntKind.u64.wrap (2 ^ (b % 64).toNat)))) = w4 at *
    refine (dec_calls _ _ _ hi4).mono ?_
    rintro e w5 ⟨rfl, hb5⟩
    have HR5 := Lib.hid (blk_later (blk_later HR2.out hb4) hb5)
    have HB5 := Lib.hid ((HB2.out.trans (hb4.mono (Nat.le_of_lt HLT2.out))).trans (hb5.mono (Nat.le_of_lt (Nat.lt_of_lt_of_le HLT2.out hb4.size))))
    have HLT5 : Hid (w.heap.size < w5.heap.size) := Lib.hid (Nat.lt_of_lt_of_le (Nat.lt_of_lt_of_le HLT2.out hb4.size) hb5.size)
    clear hb4 hb5 hi4
    have ⟨c0, c1, c2, c3'⟩ := rec_cells HR5.out
    cases hd : decP E2 with
    | none =>
      unfold decV recV
      clear hd
      go_wp2
      go_ret
      exact ⟨rfl, HB5.out.alloc (Nat.le_of_lt HLT5.out) _⟩
    | some r =>
      obtain ⟨s', n', g', t'⟩ := r
      obtain ⟨he, _, _⟩ := decP_some hd
      have hdiff : ¬ (s' = s ∧ n' = n ∧ g' = g ∧ t' = t) := fun ⟨h1, h2, h3, h4⟩ => by
        subst h1 h2 h3 h4
        exact hset he.symm
      unfold decV recV
      clear hd he hset
      have HD := Lib.hid hdiff
      clear hdiff
      have d0 : ∀ o, (w5.alloc o).cell? ⟨w.heap.size, 0, none⟩ = some (.int .u64 s) := fun o => (World.cell?_alloc_lt _ _ _ HLT5.out).trans c0
      have d1 : ∀ o, (w5.alloc o).cell? ⟨w.heap.size, 1, none⟩ = some (.int .u64 n) := fun o => (World.cell?_alloc_lt _ _ _ HLT5.out).trans c1
      have d2 : ∀ o, (w5.alloc o).cell? ⟨w.heap.size, 2, none⟩ = some (.bool g) := fun o => (World.cell?_alloc_lt _ _ _ HLT5.out).trans c2
      have d3 : ∀ o, (w5.alloc o).cell? ⟨w.heap.size, 3, none⟩ = some (.string t) := fun o => (World.cell?_alloc_lt _ _ _ HLT5.out).trans c3'
      go_wp2
      all_goals first
        | (go_ret; exact ⟨rfl, HB5.out.alloc (Nat.le_of_lt HLT5.out) _⟩)
        | exact absurd ⟨by assumption, by assumption, by assumption, toList_inj (by assumption)⟩ HD.out
  · rw [decide_eq_false hok]
    go_wp2
    go_ret
    exact ⟨rfl, HB2.out⟩
set_option maxHeartbeats 800000 in
theorem recTurned_out (s n : Int) (g : Bool) (t : ByteArray) (a b : Int) (w : World) (h : 200 < t.size) :
    Calls Try.prog 7 #[.agg #[.int .u64 s, .int .u64 n, .bool g, .string t], .int .u8 a, .int .u8 b] w fun e w' => e = .returned (.bool true) ∧ Below w.heap.size w w' := by
  have HLT : Hid (w.heap.size < (w.alloc (.cells #[.int .u64 s, .int .u64 n, .bool g, .string t] 24)).heap.size) := Lib.hid (by simp)
  have HB0 := Lib.hid ((Below.refl w.heap.size w).alloc (Nat.le_refl _) (.cells #[.int .u64 s, .int .u64 n, .bool g, .string t] 24))
  have HR0 : Hid ((w.alloc (.cells #[.int .u64 s, .int .u64 n, .bool g, .string t] 24)).heap[w.heap.size]? = some (.cells #[.int .u64 s, .int .u64 n, .bool g, .string t] 24 (0, 0))) := Lib.hid (heap_alloc_new w _)
  have t1 : decide ((200 : Int) < (t.size : Int)) = true := by simp; omega
  go_enter Try.func7, Try.ntmps7
  go_wp2_with (go_at_call 14; refine (ralive_calls _).mono ?_; rintro e w1 ⟨rfl, hb1⟩; have ⟨c0, c1, c2, c3⟩ := rec_cells (blk_later HR0.out hb1))
  go_ret
  exact ⟨rfl, HB0.out.trans (hb1.mono (Nat.le_of_lt HLT.out))⟩
theorem recTurned_walk (s n : Int) (g : Bool) (t : ByteArray) (hs : W64 s) (hn : W64 n) (a : Int) (ha : (Lit.int .u8 a).wf = true) (b : Int) (hb : (Lit.int .u8 b).wf = true) {w : World} :
    Calls Try.prog 7 #[.agg #[.int .u64 s, .int .u64 n, .bool g, .string t], .int .u8 a, .int .u8 b] w fun e w' => e = .returned (.bool true) ∧ Below w.heap.size w w' := by
  by_cases h : t.size ≤ 200
  · exact recTurned_main s n g t a b w hs hn h (bd_u8 ha) (bd_u8 hb)
  · exact recTurned_out s n g t a b w (by omega)
end Go.Proofs.Ytflobafmmfigoaa
