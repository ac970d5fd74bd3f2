/- BITS TURNED IN A TEXT: what that makes of its sum. -/
import Derived.Test.YtmhopnopdloedaaDoorLin
namespace Go.Proofs.YtmhopnopdloedaaDoor
open Go Go.RowKit

def bitOn (y : Int) (i : Nat) : Bool := bits .and .u32 (y / 2 ^ i) 1 == 1
def flips (l : List Int) (p : Nat) (y : Int) : Nat → List Int
  | 0 => l
  | k + 1 => if bitOn y k = true then (flips l p y k).set ((p + k) / 8) (bits .xor .u8 ((flips l p y k).getD ((p + k) / 8) 0) (2 ^ ((p + k) % 8) % 256)) else flips l p y k
theorem flips_length (l : List Int) (p : Nat) (y : Int) (k : Nat) : (flips l p y k).length = l.length := by
  induction k with
  | zero => rfl
  | succ k ih => simp only [flips]; split <;> simp [ih]
theorem flips_bd (l : List Int) (p : Nat) (y : Int) (k : Nat) (h : ∀ c ∈ l, 0 ≤ c ∧ c ≤ 255) : ∀ c ∈ flips l p y k, 0 ≤ c ∧ c ≤ 255 := by
  induction k with
  | zero => exact h
  | succ k ih =>
    simp only [flips]
    split
    · intro c hc
      rcases List.mem_or_eq_of_mem_set hc with h' | h'
      · exact ih c h'
      · subst h'; exact u8_xor_bd _ _
    · exact ih

theorem runB_add (L : List W32) (u e : W32) : runB (u ^^^ e) L = runB u L ^^^ bsteps (8 * L.length) e := by
  have h := runB_diff L (u ^^^ e) u
  rw [show u ^^^ e ^^^ u = (u ^^^ u) ^^^ e from by ac_rfl] at h
  rw [show (u ^^^ u) ^^^ e = e from by simp] at h
  rw [← h, show runB u L ^^^ (runB (u ^^^ e) L ^^^ runB u L) = (runB u L ^^^ runB u L) ^^^ runB (u ^^^ e) L from by ac_rfl]
  simp
theorem runB_set (L : List W32) (d : W32) : ∀ (s : W32) (j : Nat), j < L.length → runB s (L.set j (L.getD j 0#32 ^^^ d)) = runB s L ^^^ bsteps (8 * (L.length - j)) d := by
  induction L with
  | nil => intro s j h; simp at h
  | cons c L ih =>
    intro s j h
    cases j with
    | zero =>
      have e : byteB s (c ^^^ d) = byteB s c ^^^ bsteps 8 d := by
        have := byteB_xor s 0#32 c d
        simp only [BitVec.xor_zero] at this
        rw [this]; simp [byteB]
      simp only [List.set_cons_zero, List.getD_cons_zero, runB, List.foldl_cons] at *
      rw [e]
      have := runB_add L (byteB s c) (bsteps 8 d)
      unfold runB at this
      rw [this, ← bsteps_add, List.length_cons]
      rw [show 8 * (L.length + 1 - 0) = 8 + 8 * L.length from by omega]
    | succ j =>
      have := ih (byteB s c) j (by simpa using h)
      simp only [List.set_cons_succ, List.getD_cons_succ, runB, List.foldl_cons] at this ⊢
      rw [this, List.length_cons]
      rw [show L.length + 1 - (j + 1) = L.length - j from by omega]
theorem bsteps_one (t M : Nat) (h : t ≤ M) (ht : t < 32) : bsteps M (1#32 <<< t) = bsteps (M - t) 1#32 := by
  have e : bsteps t (1#32 <<< t) = 1#32 := by
    rw [bsteps_low]
    · apply BitVec.eq_of_getLsbD_eq
      intro i hi
      rw [BitVec.getLsbD_ushiftRight, BitVec.getLsbD_shiftLeft]
      by_cases h0 : i = 0
      · subst h0; simp [ht]
      · simp [h0]
    · intro i hi; rw [BitVec.getLsbD_shiftLeft]; simp [hi]
  have := bsteps_add t (M - t) (1#32 <<< t)
  rw [show t + (M - t) = M from by omega, e] at this
  exact this
/-- the lowest bits of a word -/
def lowB (Y : W32) : Nat → W32
  | 0 => 0#32
  | k + 1 => lowB Y k ^^^ (if Y.getLsbD k then 1#32 <<< k else 0#32)
theorem lowB_bit (Y : W32) (k : Nat) (hk : k ≤ 32) : ∀ i, (lowB Y k).getLsbD i = (decide (i < k) && Y.getLsbD i) := by
  induction k with
  | zero => intro i; simp [lowB]
  | succ k ih =>
    intro i
    simp only [lowB]
    rw [BitVec.getLsbD_xor, ih (by omega)]
    by_cases hik : i = k
    · subst hik
      by_cases hy : Y.getLsbD i = true
      · simp [hy, show i < 32 from by omega]
      · simp [hy]
    · have e : (if Y.getLsbD k = true then 1#32 <<< k else 0#32).getLsbD i = false := by
        split
        · rw [BitVec.getLsbD_shiftLeft]
          by_cases h1 : i < k
          · simp [h1]
          · have : i - k ≠ 0 := by omega
            simp [this]
        · simp
      rw [e]
      by_cases h1 : i < k
      · simp [h1, show i < k + 1 from by omega]
      · simp [h1, show ¬ i < k + 1 from by omega]
theorem lowB_all (Y : W32) : lowB Y 32 = Y := by
  apply BitVec.eq_of_getLsbD_eq
  intro i hi
  rw [lowB_bit Y 32 (by omega)]; simp [hi]
theorem bitOn_eq (y : Int) (h0 : 0 ≤ y) (h1 : y ≤ 4294967295) (k : Nat) : bitOn y k = (BitVec.ofInt 32 y).getLsbD k := by
  obtain ⟨n, rfl⟩ := Int.eq_ofNat_of_zero_le h0
  have e : ((n : Int) / 2 ^ k) = ((n / 2 ^ k : Nat) : Int) := by simp
  unfold bitOn
  rw [e, show (1 : Int) = ((1 : Nat) : Int) from rfl, u32_and_nat _ _ (Nat.lt_of_le_of_lt (Nat.div_le_self _ _) (by omega)) (by omega), Nat.and_one_is_mod]
  rw [BitVec.ofInt_natCast, BitVec.getLsbD_ofNat]
  by_cases hk : k < 32
  · simp only [hk, decide_true, Bool.true_and, Nat.testBit_eq_decide_div_mod_eq]
    rw [Bool.eq_iff_iff]; simp; omega
  · have : n / 2 ^ k = 0 := Nat.div_eq_of_lt (Nat.lt_of_lt_of_le (by omega) (Nat.pow_le_pow_right (by omega) (show 32 ≤ k from by omega)))
    rw [this]; simp [hk]
theorem mask_of (t : Nat) (ht : t < 8) : (2 : Int) ^ t % 256 = 2 ^ t ∧ BitVec.ofInt 32 (2 ^ t) = 1#32 <<< t ∧ 0 ≤ (2 : Int) ^ t ∧ (2 : Int) ^ t ≤ 255 := by
  rcases t with _ | _ | _ | _ | _ | _ | _ | _ | t
  all_goals first | decide | omega
theorem flips_run (l : List Int) (p : Nat) (y : Int) (h0 : 0 ≤ y) (h1 : y ≤ 4294967295) (hb : ∀ c ∈ l, 0 ≤ c ∧ c ≤ 255) (s : W32) (k : Nat) (hk : p + k ≤ 8 * l.length) (hk2 : k ≤ 32) :
    runB s (asW (flips l p y k)) = runB s (asW l) ^^^ bsteps (8 * l.length - p) (lowB (BitVec.ofInt 32 y) k) := by
  induction k with
  | zero => simp [flips, lowB, bsteps_zero]
  | succ k ih =>
    have ih := ih (by omega) (by omega)
    simp only [flips, lowB]
    rw [bitOn_eq y h0 h1 k, bsteps_xor, ← BitVec.xor_assoc, ← ih]
    by_cases hy : (BitVec.ofInt 32 y).getLsbD k = true
    · rw [if_pos hy, if_pos hy]
      have hl := flips_length l p y k
      have hbd := flips_bd l p y k hb
      generalize flips l p y k = F at *
      obtain ⟨m1, m2, m3, m4⟩ := mask_of ((p + k) % 8) (by omega)
      have hj : (p + k) / 8 < F.length := by omega
      have e : asW (F.set ((p + k) / 8) (bits .xor .u8 (F.getD ((p + k) / 8) 0) (2 ^ ((p + k) % 8) % 256))) = (asW F).set ((p + k) / 8) ((asW F).getD ((p + k) / 8) 0#32 ^^^ 1#32 <<< ((p + k) % 8)) := by
        unfold asW
        rw [List.map_set, m1, u8_xor_of _ _ (byte_at hbd _ hj) ⟨m3, m4⟩, m2]
        simp [hj]
      have hal : (asW F).length = F.length := by unfold asW; rw [List.length_map]
      rw [e, runB_set _ _ _ _ (by rw [hal]; exact hj), bsteps_one _ _ (by omega) (by omega), bsteps_one _ _ (by omega) (by omega)]
      rw [hal, hl]
      rw [show 8 * (l.length - (p + k) / 8) - (p + k) % 8 = 8 * l.length - p - k from by omega]
    · rw [if_neg hy, if_neg hy, bsteps_zero]; simp
theorem flips_differ (l : List Int) (p : Nat) (y : Int) (h0 : 0 ≤ y) (h1 : y ≤ 4294967295) (hy : ¬ y = 0) (hb : ∀ c ∈ l, 0 ≤ c ∧ c ≤ 255) (hk : p + 32 ≤ 8 * l.length) :
    next 0 l ≠ next 0 (flips l p y 32) := by
  intro h
  rw [next_asW 0 l (by omega) (by omega) hb, next_asW 0 _ (by omega) (by omega) (flips_bd l p y 32 hb)] at h
  have h2 := toI_inj h
  unfold nextB at h2
  rw [flips_run l p y h0 h1 hb _ 32 hk (by omega), lowB_all] at h2
  generalize runB _ _ = x at h2
  have h3 : bsteps (8 * l.length - p) (BitVec.ofInt 32 y) = 0#32 := by
    have e : (4294967295#32 ^^^ x) ^^^ (4294967295#32 ^^^ (x ^^^ bsteps (8 * l.length - p) (BitVec.ofInt 32 y))) = 0#32 := by rw [← h2]; simp
    rw [show (4294967295#32 ^^^ x) ^^^ (4294967295#32 ^^^ (x ^^^ bsteps (8 * l.length - p) (BitVec.ofInt 32 y))) = (4294967295#32 ^^^ 4294967295#32) ^^^ (x ^^^ x) ^^^ bsteps (8 * l.length - p) (BitVec.ofInt 32 y) from by ac_rfl] at e
    simpa using e
  have h4 := bsteps_null _ _ h3
  have h5 := congrArg toI h4
  rw [toI_of y h0 h1] at h5
  exact hy (by rw [h5]; rfl)
end Go.Proofs.YtmhopnopdloedaaDoor
